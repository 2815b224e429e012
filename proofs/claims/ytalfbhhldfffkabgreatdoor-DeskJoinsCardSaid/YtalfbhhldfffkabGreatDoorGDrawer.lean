/- DrawerC: the reference's Drawer: at.
   DrawerC2: the reference's Drawer: Names.
   DrawerC3: the reference's Drawer: Do, the ways that change nothing.
   DrawerC4: the reference's Drawer: Do, on.
   DrawerC5: the reference's Drawer: Do, where the file is found.
   DrawerC6: the reference's Drawer: Do, where the files change.
   DrawerC7: the reference's Drawer: Do, whole. -/
import Derived.Test.YtalfbhhldfffkabGreatDoorGFiles
import Derived.Test.YtalfbhhldfffkabGreatDoorGCheck
namespace Go.Proofs.YtalfbhhldfffkabGreatDoor
open Go.RowKit

def atInt (d : List FileD) (s : ByteArray) : Int := match dAt d s with | some i => (i : Int) | none => -1
end Go.Proofs.YtalfbhhldfffkabGreatDoor
namespace Go.Proofs.YtalfbhhldfffkabGreatDoor
open Go.RowKit

def dNamesUpto (d : List FileD) (i : Nat) : List ByteArray := dNames (d.take i)
theorem dNames_take {d : List FileD} {i : Nat} {f : FileD} (h : d[i]? = some f) : dNamesUpto d (i + 1) = insName f.name (dNamesUpto d i) := by
  unfold dNamesUpto dNames
  rw [List.take_add_one, h, List.foldl_append]
  rfl
def below (out : List ByteArray) (n : ByteArray) : Nat := (out.takeWhile fun m => bless m n).length
theorem insName_eq (out : List ByteArray) (n : ByteArray) : insName n out = out.take (below out n) ++ n :: out.drop (below out n) := by
  unfold insName below
  rw [(take_len List.takeWhile_append_dropWhile).1, (take_len List.takeWhile_append_dropWhile).2]
theorem below_of {out : List ByteArray} {n : ByteArray} {p : Nat} (hp : p ≤ out.length) (h1 : ∀ (j : Nat) s, j < p → out[j]? = some s → bless s n = true) (h2 : ∀ s, out[p]? = some s → bless s n = false) : p = below out n := by
  induction out generalizing p with
  | nil => simp at hp; simp [hp, below]
  | cons x l ih =>
    unfold below
    cases p with
    | zero => rw [List.takeWhile_cons, h2 x rfl]; rfl
    | succ p =>
      rw [List.takeWhile_cons, h1 0 x (by omega) rfl]
      have := ih (p := p) (by simpa using hp) (fun j f hj hf => h1 (j + 1) f (by omega) (by simpa using hf)) (fun f hf => h2 f (by simpa using hf))
      simp [below] at this ⊢
      exact this
theorem insName_at {out : List ByteArray} {n : ByteArray} {j : Nat} (h : j = below out n) : out.take j ++ n :: out.drop j = insName n out := by rw [insName_eq, ← h]
theorem length_insName (n : ByteArray) (out : List ByteArray) : (insName n out).length = out.length + 1 := by rw [(insName_perm n out).length_eq, List.length_cons]
theorem length_dNamesUpto (d : List FileD) (i : Nat) (hi : i ≤ d.length) : (dNamesUpto d i).length = i := by
  induction i with
  | zero => rfl
  | succ i ih =>
    obtain ⟨f, hf⟩ : ∃ f, d[i]? = some f := ⟨d[i], by simp⟩
    rw [dNames_take hf, length_insName, ih (by omega)]

def DNRel (w : World) (d : List FileD) (out i : Value) (wr : World) : Prop :=
  ∃ (k : Nat) (A1 : Option Addr) (c1 : Nat), i = .int .i64 k ∧ k ≤ d.length ∧ out = .slice A1 k c1 ∧ Owns wr 9 (.slice A1 k c1) (dNamesUpto d k) ∧ Ext w wr ∧ ∀ q, (Value.slice A1 k c1).ownBlock = some q → w.heap.size ≤ q
def InRel (wr : World) (L : List ByteArray) (n : ByteArray) (k : Nat) (i : Value) (wq : World) : Prop :=
  ∃ (j nq : Nat), i = .int .i64 j ∧ j ≤ k ∧ (∀ (t : Nat) s, t < j → L[t]? = some s → bless s n = true) ∧ wq = wr.drewN nq
theorem World.grownBy.cellAt {w w' : World} {row : Option Nat} (hg : w.grownBy w' row) {p : Addr} (h : p.block < w.heap.size) (hne : row ≠ some p.block) : w'.cell? p = w.cell? p :=
  World.cell?_of_block (hg.block p.block h fun e => hne e.symm)

end Go.Proofs.YtalfbhhldfffkabGreatDoor
namespace Go.Proofs.YtalfbhhldfffkabGreatDoor
open Go.RowKit

structure DOk (d : List FileD) : Prop where
  len : d.length ≤ 6
  each : ∀ f ∈ d, f.name.size ≤ 5 ∧ f.text.size ≤ 16
theorem Srt.dok {l d : List FileD} (h : Srt l d) (hl : FOk l) : DOk d :=
  ⟨by rw [← h.2.length_eq]; exact hl.len, fun f hf => by
    have h1 := hl.each f (h.2.mem_iff.2 hf)
    exact ⟨okText_le h1.1, h1.2⟩⟩
theorem noText_append (s : ByteArray) : noText ++ s = s := by
  apply toList_inj
  rw [ByteArray.toList_eq, ByteArray.toList_eq]
  simp [noText]
theorem joinSp_snoc (l : List ByteArray) (hl : l ≠ []) (x : ByteArray) : joinSp (l ++ [x]) = joinSp l ++ ⟨#[32]⟩ ++ x := by
  cases l with
  | nil => exact (hl rfl).elim
  | cons y l => simp [joinSp]
theorem joinSp_take_zero {l : List ByteArray} {x : ByteArray} (h : l[0]? = some x) : joinSp (l.take 1) = x := by
  cases l with
  | nil => simp at h
  | cons y l => simp at h; subst h; rfl
theorem joinSp_take_succ {l : List ByteArray} {k : Nat} {x : ByteArray} (h : l[k]? = some x) (hk : 0 < k) : joinSp (l.take (k + 1)) = joinSp (l.take k) ++ ⟨#[32]⟩ ++ x := by
  rw [List.take_add_one, h]
  refine joinSp_snoc _ (fun e => ?_) x
  have hlt := (List.getElem?_eq_some_iff.1 h).1
  have := congrArg List.length e
  rw [List.length_take, List.length_nil] at this
  omega
theorem size_joinSp {l : List ByteArray} {m : Nat} (h : ∀ s ∈ l, s.size ≤ m) : (joinSp l).size ≤ l.length * (m + 1) := by
  have key : ∀ (r : List ByteArray) (a : ByteArray), (∀ s ∈ r, s.size ≤ m) → (r.foldl (fun s y => s ++ (⟨#[32]⟩ : ByteArray) ++ y) a).size ≤ a.size + r.length * (m + 1) := by
    intro r
    induction r with
    | nil => intro a _; simp
    | cons y r ih =>
      intro a hr
      have h1 := ih (a ++ (⟨#[32]⟩ : ByteArray) ++ y) (fun s hs => hr s (by simp [hs]))
      have h2 := hr y (by simp)
      have h3 : (a ++ (⟨#[32]⟩ : ByteArray) ++ y).size = a.size + 1 + y.size := by simp [ByteArray.size_append]; rfl
      rw [List.foldl_cons, List.length_cons, Nat.add_mul]
      omega
  cases l with
  | nil => simp [joinSp, noText, ByteArray.size]
  | cons x l =>
    have h1 := key l x (fun s hs => h s (by simp [hs]))
    have h2 := h x (by simp)
    show (l.foldl _ x).size ≤ _
    rw [List.length_cons, Nat.add_mul]
    omega
theorem dNames_mem {d : List FileD} {s : ByteArray} (h : s ∈ dNames d) : ∃ f ∈ d, f.name = s := by
  have := (foldl_names d [] List.Pairwise.nil).2.mem_iff.1 h
  simpa using this


theorem ddo_list {d : List FileD} {x : Call} (h0 : callCode x = 0) (h6 : x.kind = 6) : ddo d x = (⟨0, joinSp (dNames d)⟩, d) := by
  unfold ddo; rw [if_neg (by simp [h0]), if_pos h6]
theorem ddo_make {d : List FileD} {x : Call} (h0 : callCode x = 0) (h1 : x.kind = 1) : ddo d x = (match dAt d x.name with | some _ => (ans 5, d) | none => if 6 ≤ d.length then (ans 7, d) else (ans 0, d ++ [⟨x.name, noText⟩])) := by
  unfold ddo; rw [if_neg (by simp [h0]), if_neg (by omega), if_pos h1]; cases dAt d x.name <;> rfl
theorem ddo_lost {d : List FileD} {x : Call} (h0 : callCode x = 0) (h6 : x.kind ≠ 6) (h1 : x.kind ≠ 1) (hd : dAt d x.name = none) : ddo d x = (ans 6, d) := by
  unfold ddo; rw [if_neg (by simp [h0]), if_neg h6, if_neg h1, hd]
theorem ddo_found {d : List FileD} {x : Call} (h0 : callCode x = 0) (h6 : x.kind ≠ 6) (h1 : x.kind ≠ 1) {i : Nat} {f : FileD} (hd : dAt d x.name = some i) (hf : d[i]? = some f) :
    ddo d x = (if x.kind = 5 then (⟨0, f.text⟩, d)
        else if x.kind = 4 then (if 16 < f.text.size + x.text.size then (ans 7, d) else (ans 0, d.set i ⟨f.name, f.text ++ x.text⟩))
        else if x.kind = 3 then (match dAt d x.to_ with
          | some _ => (ans 5, d)
          | none => (ans 0, d.set i ⟨x.to_, f.text⟩))
        else (ans 0, d.eraseIdx i)) := by
  unfold ddo; rw [if_neg (by simp [h0]), if_neg h6, if_neg h1, hd]
  simp only [hf]
  cases dAt d x.to_ <;> rfl

end Go.Proofs.YtalfbhhldfffkabGreatDoor
namespace Go.Proofs.YtalfbhhldfffkabGreatDoor
open Go.RowKit


end Go.Proofs.YtalfbhhldfffkabGreatDoor
namespace Go.Proofs.YtalfbhhldfffkabGreatDoor
open Go.RowKit

theorem quiet_more {P : Program} {f : FuncId} {args : Array Value} {w : World} {a n : Nat} {v : Value} (h : Calls P f args (w.drewN (a + n)) fun e w' => e = .returned v ∧ w' = w.drewN (a + n)) :
    Calls P f args (w.drewN (a + n)) fun e w'' => e = .returned v ∧ ∃ m, w'' = w.drewN (a + m) := h.mono fun _ _ ⟨he, hm⟩ => ⟨he, n, hm⟩
theorem Holds.movedBy {α : Type} [Lies α] {w w' : World} {F : Nat → Prop} {g : Nat} {T E : TypeId} {v v' : Value} {_l l' : List α} (hF : ∀ k, F k ↔ foot g v k) (h' : Holds w' g T E v' l') (ht : Touch (foot g v) w w') (hf : ∀ k, v'.ownBlock = some k → v.ownBlock = some k ∨ w.heap.size ≤ k) :
    Moved (repHolds g T E) w F l' w' := by
  have e : F = foot g v := funext fun k => propext (hF k)
  subst e
  refine ⟨foot g v', ⟨v', fun _ => Iff.rfl, h'⟩, ht, fun k hk => ?_⟩
  rcases hk with rfl | hk
  · exact .inl (.inl rfl)
  · rcases hf k hk with h | h
    · exact .inl (.inr h)
    · exact .inr h


end Go.Proofs.YtalfbhhldfffkabGreatDoor
namespace Go.Proofs.YtalfbhhldfffkabGreatDoor
open Go.RowKit

theorem flat_name (l : List FileD) (i : Nat) (f : FileD) (hf : l[i]? = some f) (t : ByteArray) : (flat l).set (i * 2) (.string t) = flat (l.set i ⟨t, f.text⟩) := by
  induction l generalizing i with
  | nil => simp at hf
  | cons x l ih =>
    rw [flat_cons]
    cases i with
    | zero =>
      simp at hf; subst hf
      rw [List.set_cons_zero, flat_cons]
      rfl
    | succ i =>
      rw [List.set_cons_succ, flat_cons, ← ih i (by simpa using hf), show (i + 1) * 2 = i * 2 + 1 + 1 by omega]
      rfl
theorem Owns.setName {w : World} {e : TypeId} {q n c : Nat} {l : List FileD} (h : Owns w e (.slice (some ⟨q, 0, none⟩) n c) l) {i : Nat} {f : FileD} (hf : l[i]? = some f) (t : ByteArray) :
    Owns (w.setCell ⟨q, i * 2, none⟩ (.string t)) e (.slice (some ⟨q, 0, none⟩) n c) (l.set i ⟨t, f.text⟩) := by
  rcases h.2 with ⟨hv, _⟩ | ⟨g', cap, cur, hv, hb, hg, hn, hc, hs, ht⟩
  · cases hv
  · injection hv with e1 e2 e3
    injection e1 with e1
    injection e1 with e1
    subst e1
    refine ⟨by rw [length_flat], .inr ⟨q, cap, cur.setIfInBounds (i * 2) (.string t), by rw [e2, e3, List.length_set], hb, heap_setCell_same w q (i * 2) cur e _ hg, by rw [List.length_set]; exact hn, hc, by simpa using hs, ?_⟩⟩
    rw [List.length_set, ← flat_name l i f hf, ← ht, Array.toList_setIfInBounds, List.take_set]


end Go.Proofs.YtalfbhhldfffkabGreatDoor
namespace Go.Proofs.YtalfbhhldfffkabGreatDoor
open Go.RowKit


end Go.Proofs.YtalfbhhldfffkabGreatDoor
