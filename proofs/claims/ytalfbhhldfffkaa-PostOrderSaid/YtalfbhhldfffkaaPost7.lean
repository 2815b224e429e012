/- Post7: what Send, Take and Double come to. -/
import Derived.Test.YtalfbhhldfffkaaPost6
namespace Go.Proofs.Ytalfbhhldfffkaa
open Go.RowKit

/-! ### What Send, Take and Double come to -/
def pSend (l : List Packet) (m : Packet) : Bool × List Packet := if l.length < 40 then (true, l ++ [m]) else (false, l)
def pTake (l : List Packet) (n : Int) : Packet × Bool × List Packet :=
  match l[rnd n l.length]? with
  | some m => (m, true, l.take (rnd n l.length) ++ l.drop (rnd n l.length + 1))
  | none => (Packet.zero, false, l)
def pDouble (l : List Packet) (n : Int) : Bool × List Packet :=
  match l[rnd n l.length]? with
  | some m => pSend l m
  | none => (false, l)
theorem pSend_le {l : List Packet} (m : Packet) (h : l.length ≤ 40) : (pSend l m).2.length ≤ 40 := by unfold pSend; split <;> simp <;> omega
theorem pTake_le {l : List Packet} (n : Int) (h : l.length ≤ 40) : (pTake l n).2.2.length ≤ 40 := by unfold pTake; split <;> simp <;> omega
theorem pDouble_le {l : List Packet} (n : Int) (h : l.length ≤ 40) : (pDouble l n).2.length ≤ 40 := by
  unfold pDouble; split
  · exact pSend_le _ h
  · exact h

/-- Behind a call that turns the one list of an object and answers r. -/
def Mut {α : Type} [Lies α] (w : World) (g : Nat) (T E : TypeId) (v : Value) (l' : List α) (r : Value) (e : Ending) (w' : World) : Prop :=
  e = .returned r ∧ ∃ v', Holds w' g T E v' l' ∧ Touch (foot g v) w w' ∧ ∀ k, v'.ownBlock = some k → v.ownBlock = some k ∨ w.heap.size ≤ k
theorem Mut.same {α : Type} [Lies α] {w : World} {g : Nat} {T E : TypeId} {v : Value} {l : List α} {r : Value} {e : Ending} {w' : World} (h : Holds w g T E v l) (he : e = .returned r) (hx : Ext w w') : Mut w g T E v l r e w' :=
  ⟨he, v, h.ext hx, hx.mono fun _ hk => hk.elim, fun _ hk => .inl hk⟩

theorem mut_of_send {w : World} {T g : Nat} {v : Value} {l : List Packet} {m : Packet} (h : Holds w g T 33 v l) {e : Ending} {w' : World} (hs : SendPost w T g v l m e w') : Mut w g T 33 v (pSend l m).2 (.bool (pSend l m).1) e w' := by
  unfold SendPost at hs
  unfold pSend
  split at hs
  · rename_i hl
    rw [if_pos hl]
    exact hs
  · rename_i hl
    rw [if_neg hl]
    exact Mut.same h hs.1 hs.2
theorem mut_of_take {w : World} {T g : Nat} {v : Value} {l : List Packet} {n : Int} (h : Holds w g T 33 v l) {e : Ending} {w' : World} (hs : TakePost w T g v l n e w') : Mut w g T 33 v (pTake l n).2.2 (.tuple #[.agg (pTake l n).1.cells, .bool (pTake l n).2.1]) e w' := by
  unfold pTake
  rcases hs with ⟨rfl, he, hx⟩ | ⟨m, hm, he, hs⟩
  · exact Mut.same h he hx
  · rw [hm]
    exact ⟨he, hs⟩
theorem mut_of_double {w : World} {T g : Nat} {v : Value} {l : List Packet} {n : Int} (h : Holds w g T 33 v l) {e : Ending} {w' : World} (hs : DoublePost w T g v l n e w') : Mut w g T 33 v (pDouble l n).2 (.bool (pDouble l n).1) e w' := by
  unfold pDouble
  rcases hs with ⟨hl, he, hx⟩ | ⟨hp, hl, m, hm, he, hs⟩
  · split
    · rename_i m hm
      have : 0 < l.length := by
        have := (List.getElem?_eq_some_iff.1 hm).1; omega
      unfold pSend
      rw [if_neg (fun h => hl ⟨this, h⟩)]
      exact Mut.same h he hx
    · exact Mut.same h he hx
  · rw [hm]
    simp only [pSend, if_pos hl]
    exact ⟨he, hs⟩

theorem post_send' (w : World) (g : Nat) (v : Value) (l : List Packet) (m : Packet) (h : Holds w g 96 33 v l) :
    Calls Try.prog 16 #[.pointer (some ⟨g, 0, none⟩), .agg m.cells] w (Mut w g 96 33 v (pSend l m).2 (.bool (pSend l m).1)) := (post_send w g v l m h).mono fun _ _ hs => mut_of_send h hs
theorem bag_send' (w : World) (g : Nat) (v : Value) (l : List Packet) (m : Packet) (h : Holds w g 27 33 v l) :
    Calls Try.prog 17 #[.pointer (some ⟨g, 0, none⟩), .agg m.cells] w (Mut w g 27 33 v (pSend l m).2 (.bool (pSend l m).1)) := (bag_send w g v l m h).mono fun _ _ hs => mut_of_send h hs
theorem post_take' (w : World) (g : Nat) (v : Value) (l : List Packet) (n : Int) (h : Holds w g 96 33 v l) (hl : l.length ≤ 40) :
    Calls Try.prog 18 #[.pointer (some ⟨g, 0, none⟩), .int .i64 n] w (Mut w g 96 33 v (pTake l n).2.2 (.tuple #[.agg (pTake l n).1.cells, .bool (pTake l n).2.1])) := (post_take w g v l n h hl).mono fun _ _ hs => mut_of_take h hs
theorem bag_take' (w : World) (g : Nat) (v : Value) (l : List Packet) (n : Int) (h : Holds w g 27 33 v l) (hl : l.length ≤ 40) :
    Calls Try.prog 19 #[.pointer (some ⟨g, 0, none⟩), .int .i64 n] w (Mut w g 27 33 v (pTake l n).2.2 (.tuple #[.agg (pTake l n).1.cells, .bool (pTake l n).2.1])) := (bag_take w g v l n h hl).mono fun _ _ hs => mut_of_take h hs
theorem post_double' (w : World) (g : Nat) (v : Value) (l : List Packet) (n : Int) (h : Holds w g 96 33 v l) (hl : l.length ≤ 40) :
    Calls Try.prog 20 #[.pointer (some ⟨g, 0, none⟩), .int .i64 n] w (Mut w g 96 33 v (pDouble l n).2 (.bool (pDouble l n).1)) := (post_double w g v l n h hl).mono fun _ _ hs => mut_of_double h hs
theorem bag_double' (w : World) (g : Nat) (v : Value) (l : List Packet) (n : Int) (h : Holds w g 27 33 v l) (hl : l.length ≤ 40) :
    Calls Try.prog 21 #[.pointer (some ⟨g, 0, none⟩), .int .i64 n] w (Mut w g 27 33 v (pDouble l n).2 (.bool (pDouble l n).1)) := (bag_double w g v l n h hl).mono fun _ _ hs => mut_of_double h hs
end Go.Proofs.Ytalfbhhldfffkaa
