/- Pair: two objects that hold the same list, beside each other. -/
import Derived.Test.YtalfbhhldfffkaaPost7
namespace Go.Proofs.Ytalfbhhldfffkaa
open Go.RowKit

/-! ### Two objects beside each other that hold the same list -/
structure Pair {α : Type} [Lies α] (W w : World) (T T' E : TypeId) (g g' : Nat) (v v' : Value) (L : List α) : Prop where
  hp : Holds w g T E v L
  hb : Holds w g' T' E v' L
  fp : ∀ k, foot g v k → W.heap.size ≤ k
  fb : ∀ k, foot g' v' k → W.heap.size ≤ k
  ap : ∀ k, foot g v k → ¬ foot g' v' k
  ex : Ext W w

section
variable {α : Type} [Lies α] {W w wa w3 wb w4 : World} {T T' E : TypeId} {g g' : Nat} {v v' u u' : Value} {L L' : List α}
theorem Pair.ext (P : Pair W w T T' E g g' v v' L) (h : Ext w wa) : Pair W wa T T' E g g' v v' L := ⟨P.hp.ext h, P.hb.ext h, P.fp, P.fb, P.ap, P.ex.then h (fun _ h => h.elim)⟩
/-- the second object behind a call that touches the first alone -/
theorem Pair.second (P : Pair W w T T' E g g' v v' L) (ha : Ext w wa) (t3 : Touch (foot g v) wa w3) (hb : Ext w3 wb) : Holds wb g' T' E v' L :=
  ((P.hb.ext ha).touch t3 (fun k hk hk' => P.ap k hk' hk)).ext hb
theorem Pair.turn (P : Pair W w T T' E g g' v v' L) (ha : Ext w wa) (h3 : Holds w3 g T E u L') (t3 : Touch (foot g v) wa w3) (f3 : ∀ k, u.ownBlock = some k → v.ownBlock = some k ∨ wa.heap.size ≤ k)
    (hb : Ext w3 wb) (h4 : Holds w4 g' T' E u' L') (t4 : Touch (foot g' v') wb w4) (f4 : ∀ k, u'.ownBlock = some k → v'.ownBlock = some k ∨ wb.heap.size ≤ k) : Pair W w4 T T' E g g' u u' L' := by
  have Pa := P.ext ha
  have hlt' := Pa.hb.foot_lt
  have hap3 : ∀ k, foot g u k → ¬ foot g' v' k := foot_apart Pa.ap hlt' f3
  have h3b := h3.ext hb
  have hlt3 := h3b.foot_lt
  have hap4 : ∀ k, foot g' u' k → ¬ foot g u k := foot_apart (fun k hk hk' => hap3 k hk' hk) hlt3 f4
  refine ⟨h3b.touch t4 (fun k hk hk' => hap3 k hk hk'), h4, foot_base Pa.fp Pa.ex.size f3, foot_base Pa.fb (Nat.le_trans Pa.ex.size (Nat.le_trans t3.size hb.size)) f4, fun k hk hk' => hap4 k hk' hk, ?_⟩
  have e1 : Ext W wb := (Pa.ex.touch t3 Pa.fp).then hb (fun _ h => h.elim)
  exact e1.touch t4 Pa.fb
/-- a block that is neither's -/
theorem Pair.keeps (P : Pair W w T T' E g g' v v' L) {b : Nat} (hb : w.heap.size ≤ b) : ¬ foot g v b ∧ ¬ foot g' v' b :=
  ⟨fun hk => by have := P.hp.foot_lt _ hk; omega, fun hk => by have := P.hb.foot_lt _ hk; omega⟩
end

theorem Owns.reads {α : Type} [Lies α] {w : World} {e : TypeId} {A : Option Addr} {n c : Nat} {l : List α} (h : Owns w e (.slice A n c) l) : Reads w w.heap.size A l := by
  obtain ⟨A', c', he, _, _, hr⟩ := h.form
  cases he
  exact hr
theorem Holds.reads {α : Type} [Lies α] {w : World} {g : Nat} {T E : TypeId} {A : Option Addr} {n c : Nat} {l : List α} (h : Holds w g T E (.slice A n c) l) : Reads w w.heap.size A l := h.own.reads

/-! ### An object that holds a list, beside a list that the law owns -/
structure Beside {α β : Type} [Lies α] [Lies β] (W w : World) (T E F : TypeId) (g : Nat) (v : Value) (L : List α) (u : Value) (R : List β) : Prop where
  hp : Holds w g T E v L
  ho : Owns w F u R
  fp : ∀ k, foot g v k → W.heap.size ≤ k
  fo : ∀ k, u.ownBlock = some k → W.heap.size ≤ k
  ap : ∀ k, foot g v k → u.ownBlock ≠ some k
  ex : Ext W w
section
variable {α β : Type} [Lies α] [Lies β] {W w wa wb : World} {T E F : TypeId} {g : Nat} {v v' u u' : Value} {L L' : List α} {R R' : List β}
theorem Owns.ext {w w' : World} {e : TypeId} {v : Value} {l : List α} (h : Owns w e v l) (hx : Ext w w') : Owns w' e v l := h.touch hx fun _ _ => id
theorem Beside.ext (P : Beside W w T E F g v L u R) (h : Ext w wa) : Beside W wa T E F g v L u R := ⟨P.hp.ext h, P.ho.ext h, P.fp, P.fo, P.ap, P.ex.then h (fun _ h => h.elim)⟩
theorem Beside.turn (P : Beside W w T E F g v L u R) (ha : Ext w wa) (h3 : Holds wb g T E v' L') (t3 : Touch (foot g v) wa wb) (f3 : ∀ k, v'.ownBlock = some k → v.ownBlock = some k ∨ wa.heap.size ≤ k) : Beside W wb T E F g v' L' u R := by
  have Pa := P.ext ha
  refine ⟨h3, Pa.ho.touch t3 (fun k hk hk' => Pa.ap k hk' hk), foot_base Pa.fp Pa.ex.size f3, P.fo, fun k hk hu => ?_, Pa.ex.touch t3 Pa.fp⟩
  rcases hk with rfl | hk
  · exact Pa.ap _ (.inl rfl) hu
  · rcases f3 k hk with h1 | h1
    · exact Pa.ap k (.inr h1) hu
    · have := Pa.ho.lt k hu; omega
theorem Beside.aside (P : Beside W w T E F g v L u R) {S : Nat → Prop} (t : Touch S w wa) (h1 : ∀ k, foot g v k → ¬ S k) (h2 : ∀ k, u.ownBlock = some k → ¬ S k) (h3 : ∀ k, S k → W.heap.size ≤ k) : Beside W wa T E F g v L u R :=
  ⟨P.hp.touch t h1, P.ho.touch t h2, P.fp, P.fo, P.ap, P.ex.touch t h3⟩
theorem Beside.more (P : Beside W w T E F g v L u R) (ha : Ext w wa) (ho : Owns wb F u' R') (hg : wa.grownBy wb u.ownBlock) (hat : u'.ownBlock = u.ownBlock ∨ u'.ownBlock = some wa.heap.size) : Beside W wb T E F g v L u' R' := by
  have Pa := P.ext ha
  have t : Touch (fun k => u.ownBlock = some k) wa wb := (Touch.refl _ wa).grown hg fun k hk => .inl hk
  have hn : ∀ k, u'.ownBlock = some k → u.ownBlock = some k ∨ wa.heap.size ≤ k := fun k hk => by
    rcases hat with h1 | h1
    · exact .inl (h1 ▸ hk)
    · rw [h1] at hk; injection hk with hk; exact .inr (by omega)
  refine ⟨Pa.hp.touch t (fun k hk => Pa.ap k hk), ho, P.fp, fun k hk => ?_, fun k hk hu => ?_, Pa.ex.touch t Pa.fo⟩
  · rcases hn k hk with h1 | h1
    · exact P.fo k h1
    · have := Pa.ex.size; omega
  · rcases hn k hu with h1 | h1
    · exact Pa.ap k hk h1
    · have := Pa.hp.foot_lt k hk; omega
theorem Beside.anew (P : Beside W w T E F g v L u R) (ha : Ext w wb) (ho : Owns wb F u' R') (hn : ∀ k, u'.ownBlock = some k → w.heap.size ≤ k) : Beside W wb T E F g v L u' R' := by
  have Pa := P.ext ha
  refine ⟨Pa.hp, ho, P.fp, fun k hk => ?_, fun k hk hu => ?_, Pa.ex⟩
  · have := hn k hk; have := P.ex.size; omega
  · have := hn k hu; have := P.hp.foot_lt k hk; omega
end

theorem At.part {α β : Type} [Lies α] [Lies β] {w : World} {a : Addr} {x : α} (h : At w a x) (z : β) (n : Nat) (hz : ∀ j v, (Lies.cells z)[j]? = some v → (Lies.cells x)[n + j]? = some v) : At w (a.add n) z := fun j v hv => by
  rw [Addr.add_add]
  exact h _ _ (hz j v hv)
theorem PostStep.part (y : PostStep) : ∀ j v, y.m.cells[j]? = some v → y.cells[2 + j]? = some v := fun j v h => by
  have hj := (Array.getElem?_eq_some_iff.1 h).1
  rw [Packet.size_cells] at hj
  have : j = 0 ∨ j = 1 ∨ j = 2 ∨ j = 3 ∨ j = 4 ∨ j = 5 ∨ j = 6 ∨ j = 7 ∨ j = 8 := by omega
  rcases this with rfl | rfl | rfl | rfl | rfl | rfl | rfl | rfl | rfl <;> rw [← h] <;> cases y <;> rfl

/-- SamePackets of one list with itself -/
def YesPost (w : World) (e : Ending) (w' : World) : Prop := e = .returned (.bool true) ∧ ∃ n, w' = w.drewN n
theorem samePackets_yes (w : World) (B : Nat) (A A' : Option Addr) (l : List Packet) (c c' : Nat) (hl : Reads w B A l) (hr : Reads w B A' l) (hm : l.length ≤ 40) :
    Calls Try.prog 23 #[.slice A l.length c, .slice A' l.length c'] w (YesPost w) :=
  (samePackets w B A A' l l c c' hl hr (by omega) (by omega)).mono fun e w' ⟨he, n, hn⟩ => ⟨by rw [he]; simp, n, hn⟩
end Go.Proofs.Ytalfbhhldfffkaa
