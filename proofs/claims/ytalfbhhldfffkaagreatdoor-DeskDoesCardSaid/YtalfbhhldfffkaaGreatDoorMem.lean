/- Mem: laws on what the builtins do to slices that the call owns (any program). -/
import Derived.Test.YtalfbhhldfffkaaGreatDoorBase
import Derived.Maps.AppendAt
set_option maxHeartbeats 8000000
set_option maxRecDepth 100000
namespace Go.Proofs.YtalfbhhldfffkaaGreatDoor
open Go.RowKit
structure ElemOk (P : Program) (e : TypeId) (α : Type) [Lies α] (bytes : Nat) : Prop where
 ex : ∃ i z, P.info? e = some i /\ i.zero = some z /\ i.size = Lies.size α /\ i.bytes = bytes /\ z.cells.size = Lies.size α /\ ∀ u ∈ z.cells.toList, u.oneCell' = true
 pos : 0 < bytes
theorem ElemOk.mk' {P : Program} {e : TypeId} {α : Type} [Lies α] {bytes n : Nat} (h : (P.info? e).map (fun i => (i.zero.map (fun z => (z.cells.size, z.cells.toList.all (·.oneCell'))), i.size, i.bytes)) = some (some (n, true), n, bytes)) (hn : Lies.size α = n) (hb : 0 < bytes) : ElemOk P e α bytes := by
 refine ⟨?_, hb⟩;cases hq : P.info? e with
 | none => rw [hq] at h; cases h
 | some i =>
   rw [hq] at h;simp only [Option.map_some, Option.some.injEq, Prod.mk.injEq] at h;cases hz : i.zero with
   | none => rw [hz] at h; simp at h
   | some z =>
     rw [hz] at h;simp only [Option.map_some, Option.some.injEq, Prod.mk.injEq] at h;exact ⟨i, z, rfl, hz, by omega, h.2.2, by omega, fun u hu => List.all_eq_true.1 h.1.2 u hu⟩
section
variable {α : Type} [Lies α] {P : Program}
theorem Reads.cells {w : World} {B : Nat} {ad : Addr} {r : List α} (h : Reads w B (some ad) r) : ∀ j u, (flat r)[j]? = some u -> w.cell? (ad.add j) = some u := by
 intro j u hj;have hpos := Lies.pos (α := α);have hlen : j < r.length * Lies.size α := by rw [<- length_flat]; exact (lG hj).1
 have hk : j / Lies.size α < r.length := by rw [Nat.div_lt_iff_lt_mul hpos]; exact hlen
 obtain ⟨ad', he, _, hat⟩ := h (j / Lies.size α) r[j / Lies.size α] (by simp [hk]);injection he with he;subst he;have hmod : j % Lies.size α < (Lies.cells (r[j / Lies.size α])).size := by rw [Lies.size_eq]; exact Nat.mod_lt _ hpos
 have h1 := flat_get r (j / Lies.size α) _ (by simp [hk]) (j % Lies.size α) _ (Array.getElem?_eq_getElem hmod);have e : j / Lies.size α * Lies.size α + j % Lies.size α = j := by rw [Nat.mul_comm]; exact Nat.div_add_mod j _
 rw [e, hj] at h1;have h2 := hat (j % Lies.size α) _ (Array.getElem?_eq_getElem hmod)
 have e2 : (ad.add (j / Lies.size α * Lies.size α)).add (j % Lies.size α) = ad.add j := by
  have add_add : ∀ x y : Nat, (ad.add x).add y = ad.add (x + y) := fun x y => by
   unfold Addr.add;by_cases hx : x = 0 <;> by_cases hy : y = 0 <;> simp [hx, hy, Nat.add_assoc]
  rw [add_add, e]
 rw [e2] at h2;rw [h2, h1]
theorem reads_block {w : World} {b : Nat} {x : α} {t : TypeId} {fr : Nat × Nat} (h : w.heap[b]? = some (.cells (Lies.cells x) t fr)) (B : Nat) (hb : b < B) : Reads w B (some ⟨b, 0, none⟩) [x] := by
 intro k y hk;cases k with
 | succ k => simp at hk
 | zero =>
   simp at hk;subst hk;refine ⟨_, rfl, hb, fun j v hv => ?_⟩;have hadd : ((⟨b, 0, none⟩ : Addr).add (0 * Lies.size α)).add j = ⟨b, j, none⟩ := by unfold Addr.add; split <;> split <;> simp_all
   rw [hadd, cell_of h];exact hv
theorem Reads.nil (w : World) (B : Nat) (A : Option Addr) : Reads (α := α) w B A [] := fun k x hk => by simp at hk
theorem run_append_reads {w : World} {e : TypeId} {bytes : Nat} (hE : ElemOk P e α bytes) (t ty : TypeId) (ht : P.underlying t = some (.slice e)) {v : Value} {l r : List α} (hown : Owns w e v l)
 {B : Nat} {A : Option Addr} {c : Nat} (hr : Reads w B A r) (hsz : (l.length + r.length) * bytes <= 140737488355328) :
 ∃ A' c' w', (Builtin.append_ #[t, t] ty #[v, .slice A r.length c]).run P w = .ok (.slice A' (l.length + r.length) c') w' /\ Owns w' e (.slice A' (l.length + r.length) c') (l ++ r) /\ w.grownBy w' v.ownBlock /\
   ((Value.slice A' (l.length + r.length) c').ownBlock = v.ownBlock \/ (Value.slice A' (l.length + r.length) c').ownBlock = some w.heap.size) := by
 obtain ⟨i, z, hi, hz, hs, hb, hzs, h1⟩ := hE.ex;have hpos := Lies.pos (α := α)
 have hle : l.length + r.length <= maxLen := by
  have := Nat.le_mul_of_pos_right (l.length + r.length) hE.pos;unfold maxLen; omega
 have fin : ∀ v' w', w'.ownsRow 0 e (Lies.size α) v' (l.length + r.length) (flat l ++ flat r) -> ∃ A' c', v' = .slice A' (l.length + r.length) c' /\ Owns w' e (.slice A' (l.length + r.length) c') (l ++ r) := by
  intro v' w' h;have h' : Owns w' e v' (l ++ r) := by unfold Owns; rw [List.length_append, flat_append]; exact h
  obtain ⟨A', c', rfl, _⟩ := h'.form;rw [List.length_append] at h' ⊢;exact ⟨A', c', rfl, h'⟩
 rcases A with _ | ad
 ·have hrn : r = [] := by
   cases r with
   | nil => rfl
   | cons x r => obtain ⟨ad, h, _⟩ := hr 0 x rfl; cases h
  subst hrn;obtain ⟨A', c', rfl, _⟩ := hown.form;refine ⟨A', c', w, ?_, by simpa using hown, ⟨rfl, rfl, rfl, Nat.le_refl _, fun _ _ _ => rfl⟩, .inl rfl⟩;rcases hown.2 with ⟨hv, h0⟩ | ⟨g, cap, cur, hv, _, _, hnc, _⟩
  ·injection hv with h1 h2 h3;subst h1; subst h3;simp [Builtin.append_, run_underlying ht, sizeOf, typeInfo, hi, Builtin.lenOf, Builtin.firstCells, h0]
  ·injection hv with h1 h2 h3;subst h1; subst h3;simp [Builtin.append_, run_underlying ht, sizeOf, typeInfo, hi, Builtin.lenOf, Builtin.firstCells, hnc, storeCells]
 ·obtain ⟨v', w', hrun, h2, h3, _, h5⟩ := run_append_own_at (P := P) w 0 t ty e i z (Lies.size α) bytes ht hi hz hs hb hzs hpos v l.length (flat l) hown ad r.length c (flat r) (length_flat r) hr.cells (flat_one_cell r) hle hsz (Nat.zero_le _);obtain ⟨A', c', rfl, h6⟩ := fin v' w' h2;exact ⟨A', c', w', hrun, h6, h3, h5⟩
theorem wp_append_eq {o : Oper} {a : Act} {w w' : World} {K : Act -> World -> Prop} {Q : Exit -> Act -> World -> Prop} (s x : Operand) (t : TypeId)
 (ho : o.op = .call { callee := .builtin .append, args := #[s, x], argTypes := #[t, t] }) (vs vx v : Value) (hs : a.eval s = vs) (hx : a.eval x = vx)
 (hrun : (Builtin.append_ #[t, t] o.type #[vs, vx]).run P w = .ok v w') (h : K (a.put o.dst v) w') : o.wp P a w K Q := by
 unfold Oper.wp execOp;simp only [ho, resolve, invoke, builtin, Sem.run_bind, Sem.run_pure, Result.andThen_ok, List.map_toArray, List.map_cons, List.map_nil, hs, hx, hrun];exact h
theorem wpList_append_eq {ops : Array Oper} {rest : List Oper} {o : Oper} {a : Act} {w w' : World} {Q : Exit -> Act -> World -> Prop} (hgd : o.guard = none) (s x : Operand) (t : TypeId)
 (ho : o.op = .call { callee := .builtin .append, args := #[s, x], argTypes := #[t, t] }) (vs vx v : Value) (hs : a.eval s = vs) (hx : a.eval x = vx)
 (hrun : (Builtin.append_ #[t, t] o.type #[vs, vx]).run P w = .ok v w') (h : wpList P ops Q rest (a.put o.dst v) w') : wpList P ops Q (o :: rest) a w :=
 wpList_plain hgd fun _ hK => wp_append_eq s x t ho vs vx v hs hx hrun (hK _ _ h)
theorem step_append_eq {ops : Array Oper} {o : Oper} {a : Act} {w w' : World} {K : Act -> World -> Prop} {Q : Exit -> Act -> World -> Prop} {E : Prop} (hgd : o.guard = none) (s x : Operand) (t : TypeId)
 (ho : o.op = .call { callee := .builtin .append, args := #[s, x], argTypes := #[t, t] }) (vs vx v : Value) (hs : a.eval s = vs) (hx : a.eval x = vx)
 (hrun : (Builtin.append_ #[t, t] o.type #[vs, vx]).run P w = .ok v w') (h : K (a.put o.dst v) w') : if Region.wanted o (yielded ops a.tmps) = true then Oper.wp P o a w K Q else E := by
 have hw : Region.wanted o (yielded ops a.tmps) = true := by simp [Region.wanted, hgd]
 rw [if_pos hw];exact wp_append_eq s x t ho vs vx v hs hx hrun h
theorem step_append_own {ops : Array Oper} {o : Oper} {a : Act} {w : World} {K : Act -> World -> Prop} {Q : Exit -> Act -> World -> Prop} {E : Prop} (hgd : o.guard = none) (s x : Operand) (t : TypeId)
 (ho : o.op = .call { callee := .builtin .append, args := #[s, x], argTypes := #[t, t] }) {e : TypeId} {bytes : Nat} (hE : ElemOk P e α bytes) (ht : P.underlying t = some (.slice e))
 {v : Value} {l : List α} (hs : a.eval s = v) (hown : Owns w e v l) {A : Option Addr} {n c : Nat} (r : List α) (hn : n = r.length) (N : Nat) (hN : l.length + n = N) (hx : a.eval x = .slice A n c) {B : Nat} (hr : Reads w B A r)
 (hsz : (l.length + r.length) * bytes <= 140737488355328)
 (h : ∀ A' c' w', Owns w' e (.slice A' N c') (l ++ r) -> w.grownBy w' v.ownBlock -> ((Value.slice A' N c').ownBlock = v.ownBlock \/ (Value.slice A' N c').ownBlock = some w.heap.size) ->
  K (a.put o.dst (.slice A' N c')) w') : if Region.wanted o (yielded ops a.tmps) = true then Oper.wp P o a w K Q else E := by
 subst hn;subst hN;obtain ⟨A', c', w', hrun, h1, h2, h3⟩ := run_append_reads hE t o.type ht hown (c := c) hr hsz;exact step_append_eq hgd s x t ho _ _ _ hs hx hrun (h A' c' w' h1 h2 h3)
theorem wpList_append_own' {ops : Array Oper} {rest : List Oper} {o : Oper} {a : Act} {w : World} {Q : Exit -> Act -> World -> Prop} (hgd : o.guard = none) (s x : Operand) (t : TypeId)
 (ho : o.op = .call { callee := .builtin .append, args := #[s, x], argTypes := #[t, t] }) {e : TypeId} {bytes : Nat} (hE : ElemOk P e α bytes) (ht : P.underlying t = some (.slice e))
 {v : Value} {l : List α} (hs : a.eval s = v) (hown : Owns w e v l) {A : Option Addr} {n c : Nat} (r : List α) (hn : n = r.length) (N : Nat) (hN : l.length + n = N) (hx : a.eval x = .slice A n c) {B : Nat} (hr : Reads w B A r)
 (hsz : (l.length + r.length) * bytes <= 140737488355328)
 (h : ∀ A' c' w', Owns w' e (.slice A' N c') (l ++ r) -> w.grownBy w' v.ownBlock -> ((Value.slice A' N c').ownBlock = v.ownBlock \/ (Value.slice A' N c').ownBlock = some w.heap.size) ->
  wpList P ops Q rest (a.put o.dst (.slice A' N c')) w') : wpList P ops Q (o :: rest) a w := by
 subst hn;subst hN;obtain ⟨A', c', w', hrun, h1, h2, h3⟩ := run_append_reads hE t o.type ht hown (c := c) hr hsz;exact wpList_append_eq hgd s x t ho _ _ _ hs hx hrun (h A' c' w' h1 h2 h3)
theorem wpList_clear_eq {ops : Array Oper} {rest : List Oper} {o : Oper} {a : Act} {w w' : World} {Q : Exit -> Act -> World -> Prop} (hgd : o.guard = none) (s : Operand) (t : TypeId)
 (ho : o.op = .call { callee := .builtin .clear, args := #[s], argTypes := #[t] }) (vs v : Value) (hs : a.eval s = vs)
 (hrun : (Builtin.clear_ #[t] o.type #[vs]).run P w = .ok v w') (h : wpList P ops Q rest (a.put o.dst v) w') : wpList P ops Q (o :: rest) a w :=
 wpList_plain hgd fun _ hK => by
  unfold Oper.wp execOp;simp only [ho, resolve, invoke, builtin, Sem.run_bind, Sem.run_pure, Result.andThen_ok, List.map_toArray, List.map_cons, List.map_nil, hs, hrun];exact hK _ _ h
theorem own_take_drop {w : World} {e : TypeId} {g n cap : Nat} {l : List α} {cur : Array Value} (hg : w.heap[g]? = some (.cells cur e (0, 0))) (hn : l.length = n) (hcap : n <= cap) (hcm : cap <= maxLen)
 (hs : cur.size = cap * Lies.size α) (ht : cur.toList.take (n * Lies.size α) = flat l) : Owns w e (.slice (some ⟨g, 0, none⟩) n cap) l :=
 ⟨length_flat l, .inr ⟨g, cap, cur, by rw [hn], Nat.zero_le _, hg, by omega, hcm, hs, by rw [hn]; exact ht⟩⟩
theorem run_append_cut {w : World} {e : TypeId} {bytes : Nat} (hE : ElemOk P e α bytes) (t ty : TypeId) (ht : P.underlying t = some (.slice e)) {g cap c' : Nat} {l : List α} (hown : Owns w e (.slice (some ⟨g, 0, none⟩) l.length cap) l)
 (i j : Nat) (hij : i <= j) (hj : j <= l.length) {A : Option Addr} (hA : A = if cap = j then some ⟨g, 0, none⟩ else some ⟨g, j * Lies.size α, none⟩) :
 ∃ w', (Builtin.append_ #[t, t] ty #[.slice (some ⟨g, 0, none⟩) i cap, .slice A (l.length - j) c']).run P w = .ok (.slice (some ⟨g, 0, none⟩) (i + (l.length - j)) cap) w' /\
   Owns w' e (.slice (some ⟨g, 0, none⟩) (i + (l.length - j)) cap) (l.take i ++ l.drop j) /\ Touch (fun k => k = g) w w' := by
 obtain ⟨inf, z, hi, hz, hs, hb, hzs, h1⟩ := hE.ex;rcases hown.2 with ⟨hv, _⟩ | ⟨g', cap', cur, hv, _, hg, hnc, hcm, hcs, htake⟩
 ·cases hv
 ·injection hv with e1 e2 e3;injection e1 with e1;injection e1 with e1;subst e1; subst e3;have hlt : g < w.heap.size := (aG hg).1;have hfl : (flat (l.drop j)).length = (l.length - j) * Lies.size α := by rw [length_flat, List.length_drop]
  obtain ⟨ad, hAd⟩ : ∃ ad, A = some ad := by
   by_cases hc : cap = j
   ·exact ⟨_, by rw [hA, if_pos hc]⟩
   ·exact ⟨_, by rw [hA, if_neg hc]⟩
  subst hAd
  have hread : ∀ (ad' : Addr), some ad = some ad' -> ∀ q u, (flat (l.drop j))[q]? = some u -> w.cell? (ad'.add q) = some u := by
   intro ad' hA' q u hq;rw [hA] at hA';have hq' : q < (l.length - j) * Lies.size α := by rw [<- hfl]; exact (lG hq).1
   have hne : ¬ cap = j := by
    intro e;have : l.length - j = 0 := by omega
    rw [this] at hq'; omega
   rw [if_neg hne] at hA';injection hA' with hA';subst hA';have hadd : (⟨g, j * Lies.size α, none⟩ : Addr).add q = ⟨g, j * Lies.size α + q, none⟩ := by unfold Addr.add; split <;> simp_all
   rw [hadd, cell_of hg];rw [<- flat_drop, <- htake, List.getElem?_drop, List.getElem?_take] at hq;split at hq
   ·simpa using hq
   ·cases hq
  have hroom : i + (l.length - j) <= cap := by omega
  have hmul : (i + (l.length - j)) * Lies.size α <= cap * Lies.size α := Nat.mul_le_mul_right _ hroom;have hfit : i * inf.size + (flat (l.drop j)).length <= cur.size := by rw [hfl, hs, hcs, <- Nat.add_mul]; exact hmul
  have hrun := run_append_room (P := P) w t ty e inf ht hi g i cap cur hg ad (l.length - j) c' (flat (l.drop j)) (by rw [hfl, hs])
   (hread ad rfl) (flat_one_cell _) hroom hfit
  refine ⟨_, hrun, own_take_drop (setRow_heap w g cur _ e _ hg) (by rw [List.length_append, List.length_take, List.length_drop]; omega) hroom hcm ?_ ?_, ?_⟩
  ·simp only [List.size_toArray, List.length_append, List.length_take, List.length_drop, Array.length_toList, hfl];rw [hfl] at hfit;omega
  ·rw [hs]
   have htk : cur.toList.take (i * Lies.size α) = flat (l.take i) := by
    rw [<- flat_take, <- htake, List.take_take];congr 1
    exact (Nat.min_eq_left (Nat.mul_le_mul_right _ (by omega))).symm
   rw [htk]
   have e1 : (flat (l.take i) ++ flat (l.drop j)).length = (i + (l.length - j)) * Lies.size α := by
    rw [List.length_append, length_flat, length_flat, List.length_take, List.length_drop, <- Nat.add_mul];congr 1; omega
   show List.take _ (flat (l.take i) ++ flat (l.drop j) ++ _) = _;rw [<- e1, List.take_left, flat_append]
  ·exact (Touch.refl (fun k => k = g) w).setRow (g := g) (.inl rfl) _
theorem run_clear_tail {w : World} {e : TypeId} {bytes : Nat} (hE : ElemOk P e α bytes) (t ty : TypeId) (ht : P.underlying t = some (.slice e)) {g cap c' m : Nat} {l : List α} (hown : Owns w e (.slice (some ⟨g, 0, none⟩) l.length cap) l)
 (hm : l.length + m <= cap) {A : Option Addr} (hA : A = if cap = l.length then some ⟨g, 0, none⟩ else some ⟨g, l.length * Lies.size α, none⟩) :
 ∃ w', (Builtin.clear_ #[t] ty #[.slice A m c']).run P w = .ok (.tuple #[]) w' /\
   Owns w' e (.slice (some ⟨g, 0, none⟩) l.length cap) l /\ Touch (fun k => k = g) w w' := by
 obtain ⟨inf, z, hi, hz, hs, hb, hzs, h1⟩ := hE.ex;have hpos := Lies.pos (α := α);rcases hown.2 with ⟨hv, _⟩ | ⟨g', cap', cur, hv, _, hg, hnc, hcm, hcs, htake⟩
 ·cases hv
 ·injection hv with e1 e2 e3;injection e1 with e1;injection e1 with e1;subst e1; subst e3;by_cases hm0 : m = 0
  ·subst hm0;refine ⟨w, ?_, hown, Touch.refl _ w⟩;by_cases hc : cap = l.length
   ·rw [if_pos hc] at hA; subst hA; simp [Builtin.clear_, run_underlying ht]
   ·rw [if_neg hc] at hA; subst hA; simp [Builtin.clear_, run_underlying ht]
  ·have hne : ¬ cap = l.length := by omega
   rw [if_neg hne] at hA;subst hA;have hzl : (Builtin.zeroCells z.cells m).toList.length = m * Lies.size α := by rw [Array.length_toList, size_zeroCells, hzs]
   have hz1 : ∀ u ∈ (Builtin.zeroCells z.cells m).toList, u.oneCell' = true := by
    intro u hu;simp only [Builtin.zeroCells, Array.toList_map, List.mem_map] at hu;obtain ⟨k, _, rfl⟩ := hu;have hlt : k % z.cells.size < z.cells.size := Nat.mod_lt _ (by omega);rw [getElem!_pos z.cells _ hlt];exact h1 _ (by simp)
   have hmul : (l.length + m) * Lies.size α <= cap * Lies.size α := Nat.mul_le_mul_right _ hm;have hfit : l.length * Lies.size α + 0 + (Builtin.zeroCells z.cells m).toList.length <= cur.size := by rw [hzl, hcs]; rw [Nat.add_mul] at hmul; omega
   have hst := run_storeCells_at P g (l.length * Lies.size α) e (Builtin.zeroCells z.cells m).toList 0 cur w hg hfit hz1;have hm' : ∃ k, m = k + 1 := ⟨m - 1, by omega⟩
   obtain ⟨k, rfl⟩ := hm'
   have hrun : (Builtin.clear_ #[t] ty #[.slice (some ⟨g, l.length * Lies.size α, none⟩) (k + 1) c']).run P w = .ok (.tuple #[]) (w.setRow g (cur.toList.take (l.length * Lies.size α + 0) ++ (Builtin.zeroCells z.cells (k + 1)).toList ++ cur.toList.drop (l.length * Lies.size α + 0 + (Builtin.zeroCells z.cells (k + 1)).toList.length)).toArray) := by
    have hu := run_underlying ht w;have hzv : (zeroValue e).run P w = .ok z w := by simp [zeroValue, typeInfo, hi, hz]
    simp only [Builtin.clear_, List.getElem?_toArray, List.getElem?_cons_zero, Sem.run_bind, hu, Result.andThen_ok, hzv, hst, Sem.run_pure]
   refine ⟨_, hrun, own_take_drop (setRow_heap w g cur _ e _ hg) rfl hnc hcm ?_ ?_, (Touch.refl (fun k => k = g) w).setRow (g := g) (.inl rfl) _⟩
   ·simp only [List.size_toArray, List.length_append, List.length_take, List.length_drop, Array.length_toList] at hfit ⊢;omega
   ·simp only [Nat.add_zero];have hle : l.length * Lies.size α <= cur.toList.length := by rw [show cur.toList.length = cap * Lies.size α from Array.length_toList.trans hcs]; exact Nat.mul_le_mul_right _ hnc
    rw [List.append_assoc, List.take_append_of_le_length (by rw [List.length_take]; exact Nat.le_of_eq (Nat.min_eq_left hle).symm), List.take_take, Nat.min_self];exact htake
theorem addr_add_add (ad : Addr) (x y : Nat) : (ad.add x).add y = ad.add (x + y) := by
 unfold Addr.add;by_cases hx : x = 0 <;> by_cases hy : y = 0 <;> simp [hx, hy, Nat.add_assoc]
theorem Reads.take {w : World} {B : Nat} {A : Option Addr} {l : List α} (h : Reads w B A l) (i : Nat) : Reads w B A (l.take i) := fun k x hk => by
 rw [List.getElem?_take] at hk;split at hk
 ·exact h k x hk
 ·cases hk
theorem Reads.cut {w : World} {B : Nat} {ad : Addr} {l : List α} (h : Reads w B (some ad) l) (j cap : Nat) (hc : l.length <= cap) {A : Option Addr} (hA : (if cap = j then some ad else some (ad.add (j * Lies.size α))) = A) : Reads w B A (l.drop j) := fun k x hk => by
 rw [List.getElem?_drop] at hk;have hlt : j + k < l.length := (lG hk).1;rw [if_neg (by omega)] at hA;obtain ⟨ad', he, hb, hat⟩ := h _ _ hk;injection he with he;subst he;refine ⟨_, hA.symm, by unfold Addr.add; split <;> exact hb, ?_⟩;rw [addr_add_add, <- Nat.add_mul];exact hat
end
def NewList {α : Type} [Lies α] (w : World) (E : TypeId) (l : List α) (e : Ending) (w' : World) : Prop :=
 ∃ A c, e = .returned (.slice A l.length c) /\ Owns w' E (.slice A l.length c) l /\ Ext w w' /\ ∀ k, (Value.slice A l.length c).ownBlock = some k -> w.heap.size <= k
theorem own_empty {α : Type} [Lies α] {w : World} {g : Nat} {E : TypeId} (h : w.heap[g]? = some (.cells #[] E (0, 0))) : Owns (α := α) w E (.slice (some ⟨g, 0, none⟩) 0 0) [] :=
 own_take_drop h rfl (Nat.le_refl _) (by simp [maxLen]) (by simp) (by simp [flat])
theorem Owns.none_nil {α : Type} [Lies α] {w : World} {E : TypeId} {n c : Nat} {l : List α} (h : Owns w E (.slice none n c) l) : l = [] := by
 rcases h.2 with ⟨_, h0⟩ | ⟨g, cap, cur, hv, _⟩
 ·exact List.eq_nil_of_length_eq_zero h0
 ·cases hv
theorem Owns.some_form {α : Type} [Lies α] {w : World} {E : TypeId} {ad : Addr} {n c : Nat} {l : List α} (h : Owns w E (.slice (some ad) n c) l) : ∃ g, ad = ⟨g, 0, none⟩ := by
 rcases h.2 with ⟨hv, h0⟩ | ⟨g, cap, cur, hv, _⟩
 ·cases hv
 ·injection hv with h1; injection h1 with h1; exact ⟨g, h1⟩
end Go.Proofs.YtalfbhhldfffkaaGreatDoor
