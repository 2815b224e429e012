/- Mem2: laws on what copy, and append of zeros, do to slices that the call owns (any program). -/
import Derived.Test.YtalfbhhldfffkabMem
import Derived.Lib.Overlaps
namespace Go.Proofs.Ytalfbhhldfffkab
open Go.RowKit

/-- cs laid over L from place o on -/
def lay (L : List Value) (o : Nat) (cs : List Value) : List Value := L.take o ++ cs ++ L.drop (o + cs.length)
theorem length_lay {L : List Value} {o : Nat} {cs : List Value} (h : o + cs.length ≤ L.length) : (lay L o cs).length = L.length := by simp [lay]; omega
theorem lay_take {L : List Value} {o : Nat} {cs : List Value} (h : o ≤ L.length) : (lay L o cs).take (o + cs.length) = L.take o ++ cs := by
  unfold lay
  rw [show o + cs.length = (L.take o ++ cs).length by simp; omega, List.take_left]
theorem lay_drop {L : List Value} {o : Nat} {cs : List Value} (h : o ≤ L.length) : (lay L o cs).drop (o + cs.length) = L.drop (o + cs.length) := by
  unfold lay
  have := List.drop_left (l₁ := L.take o ++ cs) (l₂ := L.drop (o + cs.length))
  rwa [show (L.take o ++ cs).length = o + cs.length by simp; omega] at this
theorem lay_take_lo {L : List Value} {o k : Nat} {cs : List Value} (h : k ≤ o) (ho : o ≤ L.length) : (lay L o cs).take k = L.take k := by
  unfold lay
  rw [List.append_assoc, List.take_append_of_le_length (by simp; omega), List.take_take, Nat.min_eq_left h]

section
variable {α : Type} [Lies α] {P : Program}

/-- x laid in at i, what stood there from i on laid behind it: in either order -/
theorem lay_insert {Y : List Value} {l : List α} {x : α} {i : Nat} (hi : i ≤ l.length) (hY : (l.length + 1) * Lies.size α ≤ Y.length) (ht : Y.take (i * Lies.size α) = flat (l.take i)) :
    (lay (lay Y (i * Lies.size α) (flat [x])) ((i + 1) * Lies.size α) (flat (l.drop i))).take ((l.length + 1) * Lies.size α) = flat (l.take i ++ x :: l.drop i) ∧
    (lay (lay Y ((i + 1) * Lies.size α) (flat (l.drop i))) (i * Lies.size α) (flat [x])).take ((l.length + 1) * Lies.size α) = flat (l.take i ++ x :: l.drop i) := by
  have e1 : (i + 1) * Lies.size α = i * Lies.size α + (flat [x]).length := by rw [length_flat, Nat.add_mul]; simp
  have e2 : (l.length + 1) * Lies.size α = (i + 1) * Lies.size α + (flat (l.drop i)).length := by
    rw [length_flat, List.length_drop, ← Nat.add_mul]; congr 1; omega
  have hle : i * Lies.size α ≤ Y.length := by omega
  have hle2 : (i + 1) * Lies.size α ≤ Y.length := by omega
  have hx : flat (l.take i ++ x :: l.drop i) = Y.take (i * Lies.size α) ++ flat [x] ++ flat (l.drop i) := by rw [ht, flat_append, flat_cons, flat_one, List.append_assoc]
  constructor
  · rw [e2, lay_take (by rw [length_lay (by omega)]; exact hle2), hx]
    congr 1
    rw [e1, lay_take hle]
  · have h1 : (lay Y ((i + 1) * Lies.size α) (flat (l.drop i))).length = Y.length := length_lay (by omega)
    unfold lay at h1 ⊢
    rw [← e1]
    have h2 : (Y.take ((i + 1) * Lies.size α) ++ flat (l.drop i) ++ Y.drop ((i + 1) * Lies.size α + (flat (l.drop i)).length)).take (i * Lies.size α) = Y.take (i * Lies.size α) := lay_take_lo (by omega) hle2
    have h3 : (Y.take ((i + 1) * Lies.size α) ++ flat (l.drop i) ++ Y.drop ((i + 1) * Lies.size α + (flat (l.drop i)).length)).drop ((i + 1) * Lies.size α) = flat (l.drop i) ++ Y.drop ((i + 1) * Lies.size α + (flat (l.drop i)).length) := by
      rw [List.append_assoc]
      have := List.drop_left (l₁ := Y.take ((i + 1) * Lies.size α)) (l₂ := flat (l.drop i) ++ Y.drop ((i + 1) * Lies.size α + (flat (l.drop i)).length))
      rwa [show (Y.take ((i + 1) * Lies.size α)).length = (i + 1) * Lies.size α by simp; omega] at this
    rw [h2, h3, ← List.append_assoc, hx]
    rw [show (l.length + 1) * Lies.size α = (Y.take (i * Lies.size α) ++ flat [x] ++ flat (l.drop i)).length by
      rw [e2, e1, List.length_append, List.length_append, List.length_take, Nat.min_eq_left hle], List.take_left]

/-- copy, into a block of cells -/
theorem run_copy_in {w : World} {e : TypeId} {bytes : Nat} (hE : ElemOk P e α bytes) (t ty : TypeId) (ht : P.underlying t = some (.slice e)) {g o dLen dCap sLen sCap : Nat} {ad : Addr} {cur : List Value} {T : TypeId}
    (hg : w.heap[g]? = some (.cells cur.toArray T (0, 0))) (r : List α) (hn : r.length = Nat.min sLen dLen) (hsrc : ∀ j v, (flat r)[j]? = some v → w.cell? (ad.add j) = some v) (hfit : o + (flat r).length ≤ cur.length) :
    (Builtin.copy_ #[t, t] ty #[.slice (some ⟨g, o, none⟩) dLen dCap, .slice (some ad) sLen sCap]).run P w = .ok (goInt r.length) (w.setRow g (lay cur o (flat r)).toArray) := by
  obtain ⟨i, z, hi, hz, hs, hb, hzs, h1⟩ := hE.ex
  have hl : (Builtin.firstCells i.size r.length (.slice (some ad) sLen sCap)).run P w = .ok (flat r).toArray w := run_firstCells_some w i.size r.length ad sLen sCap (flat r) (by rw [length_flat, hs]) hsrc
  have hst := run_storeCells_at P g o T (flat r) 0 cur.toArray w hg (by simpa using hfit) (flat_one_cell r)
  simp only [Nat.add_zero] at hst
  simp [Builtin.copy_, run_underlying ht, Builtin.lenOf, sizeOf, typeInfo, hi, ← hn, hl, hst, lay]
/-- copy of nothing -/
theorem run_copy_none' {w : World} {e : TypeId} {bytes : Nat} (hE : ElemOk P e α bytes) (t ty : TypeId) (ht : P.underlying t = some (.slice e)) {d s : Option Addr} {dCap sLen sCap : Nat} :
    (Builtin.copy_ #[t, t] ty #[.slice d 0 dCap, .slice s sLen sCap]).run P w = .ok (goInt 0) w := by
  obtain ⟨i, z, hi, hz, hs, hb, hzs, h1⟩ := hE.ex
  cases s <;> cases d <;> simp [Builtin.copy_, run_underlying ht, Builtin.lenOf, Builtin.firstCells, sizeOf, typeInfo, hi, storeCells, loadCells, loadCellsFrom]

theorem wp_copy_eq {o : Oper} {a : Act} {w w' : World} {K : Act → World → Prop} {Q : Exit → Act → World → Prop} (s x : Operand) (t : TypeId)
    (ho : o.op = .call { callee := .builtin .copy, args := #[s, x], argTypes := #[t, t] }) (vs vx v : Value) (hs : a.eval s = vs) (hx : a.eval x = vx)
    (hrun : (Builtin.copy_ #[t, t] o.type #[vs, vx]).run P w = .ok v w') (h : K (a.put o.dst v) w') : o.wp P a w K Q := by
  unfold Oper.wp execOp
  simp only [ho, resolve, invoke, builtin, Sem.run_bind, Sem.run_pure, Result.andThen_ok, List.map_toArray, List.map_cons, List.map_nil, hs, hx, hrun]
  exact h
theorem wpList_copy_eq {ops : Array Oper} {rest : List Oper} {o : Oper} {a : Act} {w w' : World} {Q : Exit → Act → World → Prop} (hgd : o.guard = none) (s x : Operand) (t : TypeId)
    (ho : o.op = .call { callee := .builtin .copy, args := #[s, x], argTypes := #[t, t] }) (vs vx v : Value) (hs : a.eval s = vs) (hx : a.eval x = vx)
    (hrun : (Builtin.copy_ #[t, t] o.type #[vs, vx]).run P w = .ok v w') (h : wpList P ops Q rest (a.put o.dst v) w') : wpList P ops Q (o :: rest) a w :=
  wpList_plain hgd fun _ hK => wp_copy_eq s x t ho vs vx v hs hx hrun (hK _ _ h)
theorem step_copy_eq {ops : Array Oper} {o : Oper} {a : Act} {w w' : World} {K : Act → World → Prop} {Q : Exit → Act → World → Prop} {E : Prop} (hgd : o.guard = none) (s x : Operand) (t : TypeId)
    (ho : o.op = .call { callee := .builtin .copy, args := #[s, x], argTypes := #[t, t] }) (vs vx v : Value) (hs : a.eval s = vs) (hx : a.eval x = vx)
    (hrun : (Builtin.copy_ #[t, t] o.type #[vs, vx]).run P w = .ok v w') (h : K (a.put o.dst v) w') : if Region.wanted o (yielded ops a.tmps) = true then Oper.wp P o a w K Q else E := by
  have hw : Region.wanted o (yielded ops a.tmps) = true := by simp [Region.wanted, hgd]
  rw [if_pos hw]
  exact wp_copy_eq s x t ho vs vx v hs hx hrun h

/-- append(s[:i], make([]T, k)...) where there is no room -/
theorem run_append_zeros {w : World} {e : TypeId} {bytes : Nat} (hE : ElemOk P e α bytes) (t tn ty : TypeId) (ht : P.underlying t = some (.slice e)) (htn : P.underlying tn = some (.int .i64)) {b : Addr} {sLen cap k : Nat} (r : List α) (hr : r.length = sLen)
    (hsrc : ∀ j v, (flat r)[j]? = some v → w.cell? (b.add j) = some v) (hroom : cap < sLen + k) (hk1 : 0 < k) (hsz : (sLen + k) * bytes ≤ 140737488355328) :
    ∃ Y c, (Builtin.append_ #[t, tn] ty #[.slice (some b) sLen cap, .int .i64 k]).run P w = .ok (.slice (some ⟨w.heap.size, 0, none⟩) (sLen + k) c) (w.drew.alloc (.cells (flat r ++ Y).toArray e)) ∧
      sLen + k ≤ c ∧ c ≤ maxLen ∧ (flat r ++ Y).length = c * Lies.size α := by
  obtain ⟨i, z, hi, hz, hs, hb, hzs, h1⟩ := hE.ex
  have hpos := hE.pos
  have hle : sLen + k ≤ 140737488355328 := Nat.le_trans (Nat.le_mul_of_pos_right _ hpos) hsz
  have hk : (k : Int) ≤ 140737488355328 := by omega
  have hw : IntKind.i64.wrap (k : Int) = k := by rw [IntKind.wrap_i64]; omega
  have hn : ¬ (sLen + k ≤ cap) := by omega
  have hneg : ¬ ((k : Int) < 0) := by omega
  have hkb : k * bytes ≤ 140737488355328 := Nat.le_trans (Nat.mul_le_mul_right _ (by omega)) hsz
  have h48i : ¬ (281474976710656 < (k : Int) * (i.bytes : Int)) := by rw [← Int.natCast_mul, hb]; omega
  have h63' : ¬ (9223372036854775807 < ((sLen : Int) + (k : Int))) := by omega
  have h48' : ¬ (281474976710656 < Builtin.nextslicecap (sLen + k) cap * i.bytes) := by rw [hb]; exact Nat.not_lt.2 (growslice_fits hroom hsz)
  have hge := grownCap_ge w (sLen + k) cap e
  have hcm : grownCap w (sLen + k) cap e ≤ maxLen := grownCap_le_maxLen w (sLen + k) cap e (by unfold maxLen; omega)
  have hfo : (Builtin.firstCells i.size sLen (.slice (some b) sLen cap)).run P w.drew = .ok (flat r).toArray w.drew := run_firstCells_some (P := P) w.drew i.size sLen b sLen cap (flat r) (by rw [length_flat, hr, hs]) (by simpa using hsrc)
  refine ⟨(Builtin.zeroCells z.cells k).toList ++ (Builtin.zeroCells z.cells (grownCap w (sLen + k) cap e - (sLen + k))).toList, grownCap w (sLen + k) cap e, ?_, hge, hcm, ?_⟩
  · have hk0 : ¬ (k * i.size = 0) := Nat.mul_ne_zero (by omega) (by rw [hs]; have := Lies.pos (α := α); omega)
    simp [Builtin.append_, run_underlying ht, run_underlying htn, sizeOf, typeInfo, zeroValue, hi, hz, asInt, asIntOf, hw, hn, hneg, hk0, h63', h48', h48i, Question.forced, hfo, newRow, grownCap]
    congr 2
    apply Array.ext'
    simp
  · simp only [List.length_append, Array.length_toList, size_zeroCells, hzs, length_flat, hr, ← Nat.add_mul]
    congr 1
    omega
theorem wpList_append_eq2 {ops : Array Oper} {rest : List Oper} {o : Oper} {a : Act} {w w' : World} {Q : Exit → Act → World → Prop} (hgd : o.guard = none) (s x : Operand) (t tn : TypeId)
    (ho : o.op = .call { callee := .builtin .append, args := #[s, x], argTypes := #[t, tn] }) (vs vx v : Value) (hs : a.eval s = vs) (hx : a.eval x = vx)
    (hrun : (Builtin.append_ #[t, tn] o.type #[vs, vx]).run P w = .ok v w') (h : wpList P ops Q rest (a.put o.dst v) w') : wpList P ops Q (o :: rest) a w :=
  wpList_plain hgd fun _ hK => by
    unfold Oper.wp execOp
    simp only [ho, resolve, invoke, builtin, Sem.run_bind, Sem.run_pure, Result.andThen_ok, List.map_toArray, List.map_cons, List.map_nil, hs, hx, hrun]
    exact hK _ _ h
end
theorem reads_row {α : Type} [Lies α] {w : World} {b : Nat} {cs : Array Value} {T : TypeId} {fr : Nat × Nat} (h : w.heap[b]? = some (.cells cs T fr)) {l : List α} (hl : ∀ (j : Nat) (v : Value), (flat l)[j]? = some v → cs[j]? = some v) {B : Nat} (hb : b < B) : Reads w B (some ⟨b, 0, none⟩) l := fun k x hk => by
  refine ⟨⟨b, 0, none⟩, rfl, hb, fun j v hv => ?_⟩
  have h1 : (((⟨b, 0, none⟩ : Addr).add (k * Lies.size α)).add j) = ⟨b, k * Lies.size α + j, none⟩ := by unfold Addr.add; split <;> split <;> simp_all
  rw [h1, cell_of h]
  exact hl _ _ (flat_get l k x hk j v hv)
end Go.Proofs.Ytalfbhhldfffkab
