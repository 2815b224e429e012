/- Guest2: how a client lies in memory: eight cells, and the records that it owns. No program is walked here. Printed by gen_guest.py. -/
import Derived.Test.YtalfbhhldfffkaaGuest
import Derived.Test.YtalfbhhldfffkaaRep
namespace Go.Proofs.Ytalfbhhldfffkaa
open Go.RowKit

def Guest.cells (g : Guest) (v : Value) : Array Value := #[.int .i64 g.me, .int .i64 g.no, .int .i64 g.call.kind, .string g.call.name, .string g.call.to_, .string g.call.text, .bool g.isOpen, v]
@[go_sem, simp] theorem Guest.size_cells (g : Guest) (v : Value) : (g.cells v).size = 8 := by cases g; rfl
@[go_sem, simp] theorem Guest.get0 (g : Guest) (v : Value) : (g.cells v)[0]? = some (.int .i64 g.me) := by cases g; rfl
@[go_sem, simp] theorem Guest.gete0 (g : Guest) (v : Value) (h : 0 < (g.cells v).size) : (g.cells v)[0] = .int .i64 g.me := by cases g; rfl
@[go_sem, simp] theorem Guest.get1 (g : Guest) (v : Value) : (g.cells v)[1]? = some (.int .i64 g.no) := by cases g; rfl
@[go_sem, simp] theorem Guest.gete1 (g : Guest) (v : Value) (h : 1 < (g.cells v).size) : (g.cells v)[1] = .int .i64 g.no := by cases g; rfl
@[go_sem, simp] theorem Guest.get2 (g : Guest) (v : Value) : (g.cells v)[2]? = some (.int .i64 g.call.kind) := by cases g; rfl
@[go_sem, simp] theorem Guest.gete2 (g : Guest) (v : Value) (h : 2 < (g.cells v).size) : (g.cells v)[2] = .int .i64 g.call.kind := by cases g; rfl
@[go_sem, simp] theorem Guest.get3 (g : Guest) (v : Value) : (g.cells v)[3]? = some (.string g.call.name) := by cases g; rfl
@[go_sem, simp] theorem Guest.gete3 (g : Guest) (v : Value) (h : 3 < (g.cells v).size) : (g.cells v)[3] = .string g.call.name := by cases g; rfl
@[go_sem, simp] theorem Guest.get4 (g : Guest) (v : Value) : (g.cells v)[4]? = some (.string g.call.to_) := by cases g; rfl
@[go_sem, simp] theorem Guest.gete4 (g : Guest) (v : Value) (h : 4 < (g.cells v).size) : (g.cells v)[4] = .string g.call.to_ := by cases g; rfl
@[go_sem, simp] theorem Guest.get5 (g : Guest) (v : Value) : (g.cells v)[5]? = some (.string g.call.text) := by cases g; rfl
@[go_sem, simp] theorem Guest.gete5 (g : Guest) (v : Value) (h : 5 < (g.cells v).size) : (g.cells v)[5] = .string g.call.text := by cases g; rfl
@[go_sem, simp] theorem Guest.get6 (g : Guest) (v : Value) : (g.cells v)[6]? = some (.bool g.isOpen) := by cases g; rfl
@[go_sem, simp] theorem Guest.gete6 (g : Guest) (v : Value) (h : 6 < (g.cells v).size) : (g.cells v)[6] = .bool g.isOpen := by cases g; rfl
@[go_sem, simp] theorem Guest.get7 (g : Guest) (v : Value) : (g.cells v)[7]? = some v := by cases g; rfl
@[go_sem, simp] theorem Guest.gete7 (g : Guest) (v : Value) (h : 7 < (g.cells v).size) : (g.cells v)[7] = v := by cases g; rfl
@[go_sem, simp] theorem Guest.ext_call (g : Guest) (v : Value) : (g.cells v).extract 2 6 = g.call.cells := by simp [Guest.cells, Call.cells]
@[go_sem, simp] theorem Guest.set0 (g : Guest) (v : Value) (x : Int) : (g.cells v).setIfInBounds 0 (.int .i64 x) = Guest.cells { g with me := x } v := by cases g; rfl
@[go_sem, simp] theorem Guest.set1 (g : Guest) (v : Value) (x : Int) : (g.cells v).setIfInBounds 1 (.int .i64 x) = Guest.cells { g with no := x } v := by cases g; rfl
@[go_sem, simp] theorem Guest.set6 (g : Guest) (v : Value) (x : Bool) : (g.cells v).setIfInBounds 6 (.bool x) = Guest.cells { g with isOpen := x } v := by cases g; rfl
@[go_sem, simp] theorem Guest.set7 (g : Guest) (v u : Value) : (g.cells v).setIfInBounds 7 u = g.cells u := by cases g; rfl
@[go_sem, simp] theorem Guest.splice_call (g : Guest) (v : Value) (x : Call) : splice (g.cells v) x.cells 2 = Guest.cells { g with call := x } v := by simp [splice, Guest.cells, Call.cells]

/-- The client at block g of type T: its cells, and its records (elements of type E). -/
structure GuestAt (w : World) (g : Nat) (T E : TypeId) (v : Value) (x : Guest) : Prop where
  cell : w.heap[g]? = some (.cells (x.cells v) T (0, 0))
  own : Owns w E v x.done
theorem GuestAt.lt {w : World} {g : Nat} {T E : TypeId} {v : Value} {x : Guest} (h : GuestAt w g T E v x) : g < w.heap.size := (Array.getElem?_eq_some_iff.1 h.cell).1
theorem GuestAt.ext {w w' : World} {g : Nat} {T E : TypeId} {v : Value} {x : Guest} (h : GuestAt w g T E v x) (hx : Ext w w') : GuestAt w' g T E v x :=
  ⟨by rw [hx.block g h.lt id]; exact h.cell, h.own.touch hx fun _ _ => id⟩
def repGuest (g : Nat) (T E : TypeId) : Rep Guest where
  on w F x := ∃ v, (∀ k, F k ↔ foot g v k) ∧ GuestAt w g T E v x
  lt := by
    rintro w F x ⟨v, hF, h⟩ k hk
    rcases (hF k).1 hk with rfl | h1
    · exact h.lt
    · exact h.own.lt k h1
  keep := by
    rintro w w' F x ⟨v, hF, h⟩ hk
    exact ⟨v, hF, by rw [hk g ((hF g).2 (.inl rfl))]; exact h.cell, h.own.keep fun k hk' => hk k ((hF k).2 (.inr hk'))⟩
/-- behind a step that turns the cells alone -/
theorem GuestAt.turned {w w' : World} {F : Nat → Prop} {g : Nat} {T E : TypeId} {v : Value} {x y : Guest} (h : GuestAt w g T E v x) (hne : E ≠ T) (hF : ∀ k, F k ↔ foot g v k) (hc : w'.heap[g]? = some (.cells (y.cells v) T (0, 0)))
    (ht : Touch (fun k => k = g) w w') (hd : y.done = x.done) : Moved (repGuest g T E) w F y w' := by
  refine ⟨F, ⟨v, hF, hc, ?_⟩, ht.mono fun k hk => .inl ((hF k).2 (.inl hk)), Fresh.refl _ _⟩
  rw [hd]
  exact h.own.touch ht fun k hk e => h.own.elem h.cell hne (e ▸ hk)
/-- behind 'x.done = append(x.done, r)' and a store -/
theorem GuestAt.appended {w wx w1 w' : World} {F : Nat → Prop} {g : Nat} {T E : TypeId} {v v' : Value} {x y : Guest} (h : GuestAt w g T E v x) (hF : ∀ k, F k ↔ foot g v k) (hx : Ext w wx) (hne : E ≠ T)
    (hown : Owns w1 E v' y.done) (hgrow : wx.grownBy w1 v.ownBlock) (hat : v'.ownBlock = v.ownBlock ∨ v'.ownBlock = some wx.heap.size)
    (ht : Touch (fun k => k = g) w1 w') (hc : w'.heap[g]? = some (.cells (y.cells v') T (0, 0))) : Moved (repGuest g T E) w F y w' := by
  have hlt := h.lt
  have hg1 : v'.ownBlock ≠ some g := by
    rcases hat with h1 | h1
    · rw [h1]; exact h.own.elem h.cell hne
    · rw [h1]; intro e; injection e with e; have := hx.size; omega
  refine ⟨foot g v', ⟨v', fun k => Iff.rfl, hc, hown.touch ht fun k hk e => hg1 (e ▸ hk)⟩, ?_, fun k hk => ?_⟩
  · exact ((hx.mono (S := F) fun k hk => hk.elim).grown hgrow fun k hk => .inl ((hF k).2 (.inr hk))).then ht fun k hk => .inl ((hF k).2 (.inl hk))
  · rcases hk with rfl | hk
    · exact .inl ((hF _).2 (.inl rfl))
    · rcases hat with h1 | h1
      · exact .inl ((hF k).2 (.inr (by rw [← h1]; exact hk)))
      · rw [h1] at hk; injection hk with hk; exact .inr (by have := hx.size; omega)
end Go.Proofs.Ytalfbhhldfffkaa
