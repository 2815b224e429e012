/- Rep: objects in memory, each on a footprint of its own; what a call that moves one of them leaves of the others. No program is walked here. -/
import Derived.Test.YtalfbhhldfffkabBase
namespace Go.Proofs.Ytalfbhhldfffkab
open Go.RowKit

/-- A way to lie in memory, on a footprint. -/
structure Rep (X : Type) where
  on : World → (Nat → Prop) → X → Prop
  lt : ∀ {w F x}, on w F x → ∀ k, F k → k < w.heap.size
  keep : ∀ {w w' F x}, on w F x → (∀ k, F k → w'.heap[k]? = w.heap[k]?) → on w' F x

/-- F' has no block that was there and not in F. -/
def Fresh (w : World) (F F' : Nat → Prop) : Prop := ∀ k, F' k → F k ∨ w.heap.size ≤ k
theorem Fresh.refl (w : World) (F : Nat → Prop) : Fresh w F F := fun _ h => .inl h

/-- Behind a step that may touch an object alone (and new blocks). -/
def Moved {X : Type} (R : Rep X) (w : World) (F : Nat → Prop) (x : X) (w' : World) : Prop := ∃ F', R.on w' F' x ∧ Touch F w w' ∧ Fresh w F F'
/-- Behind a call that answers r besides. -/
def Moves {X : Type} (R : Rep X) (w : World) (F : Nat → Prop) (x : X) (r : Value) (e : Ending) (w' : World) : Prop := e = .returned r ∧ Moved R w F x w'

section
variable {X Y : Type} {R : Rep X} {S : Rep Y} {w w' w'' wa : World} {F G H : Nat → Prop} {x x' : X} {y y' : Y}
theorem Rep.touch (h : R.on w F x) {T : Nat → Prop} (ht : Touch T w w') (hd : ∀ k, F k → ¬ T k) : R.on w' F x := R.keep h fun k hk => ht.block k (R.lt h k hk) (hd k hk)
theorem Rep.ext (h : R.on w F x) (hx : Ext w w') : R.on w' F x := R.touch h hx fun _ _ => id
theorem Rep.moved (h : R.on w F x) (hx : Ext w w') : Moved R w F x w' := ⟨F, R.ext h hx, hx.mono fun _ h => h.elim, Fresh.refl _ _⟩
theorem Moved.ahead (hx : Ext w wa) (h : Moved R wa F x w') : Moved R w F x w' := by
  obtain ⟨F', h1, h2, h3⟩ := h
  refine ⟨F', h1, (hx.mono (S := F) fun _ h => h.elim).then h2 fun k hk => .inl hk, fun k hk => ?_⟩
  rcases h3 k hk with h | h
  · exact .inl h
  · exact .inr (Nat.le_trans hx.size h)
theorem Moved.behind (h : Moved R w F x w') (hx : Ext w' w'') : Moved R w F x w'' := by
  obtain ⟨F', h1, h2, h3⟩ := h
  exact ⟨F', R.ext h1 hx, h2.then hx fun _ h => h.elim, h3⟩
theorem Moved.then (h : Moved R w F x w') (hn : ∀ F', R.on w' F' x → Moved R w' F' x' w'') : Moved R w F x' w'' := by
  obtain ⟨F', h1, h2, h3⟩ := h
  obtain ⟨F'', g1, g2, g3⟩ := hn F' h1
  refine ⟨F'', g1, h2.then g2 fun k hk => h3 k hk, fun k hk => ?_⟩
  rcases g3 k hk with h | h
  · exact h3 k h
  · exact .inr (Nat.le_trans h2.size h)

/-- Two objects beside each other. -/
def Rep.and (R : Rep X) (S : Rep Y) : Rep (X × Y) where
  on w H z := ∃ F G, R.on w F z.1 ∧ S.on w G z.2 ∧ (∀ k, F k → ¬ G k) ∧ (∀ k, H k ↔ F k ∨ G k)
  lt := by
    rintro w H z ⟨F, G, hF, hG, _, hH⟩ k hk
    rcases (hH k).1 hk with h | h
    · exact R.lt hF k h
    · exact S.lt hG k h
  keep := by
    rintro w w' H z ⟨F, G, hF, hG, hd, hH⟩ hk
    exact ⟨F, G, R.keep hF fun k h => hk k ((hH k).2 (.inl h)), S.keep hG fun k h => hk k ((hH k).2 (.inr h)), hd, hH⟩

/-- the first of the two, and what a step of it comes to -/
theorem Rep.fst (h : (R.and S).on w H (x, y)) : ∃ F, R.on w F x ∧ ∀ x' w', Moved R w F x' w' → Moved (R.and S) w H (x', y) w' := by
  obtain ⟨F, G, hF, hG, hd, hH⟩ := h
  refine ⟨F, hF, fun x' w' ⟨F', h1, h2, h3⟩ => ⟨fun k => F' k ∨ G k, ⟨F', G, h1, S.touch hG h2 fun k hk hf => hd k hf hk, fun k hk hg => ?_, fun k => Iff.rfl⟩, h2.mono fun k hk => .inl ((hH k).2 (.inl hk)), fun k hk => ?_⟩⟩
  · rcases h3 k hk with h | h
    · exact hd k h hg
    · have := S.lt hG k hg; omega
  · rcases hk with hk | hk
    · rcases h3 k hk with h | h
      · exact .inl ((hH k).2 (.inl h))
      · exact .inr h
    · exact .inl ((hH k).2 (.inr hk))
theorem Rep.snd (h : (R.and S).on w H (x, y)) : ∃ G, S.on w G y ∧ ∀ y' w', Moved S w G y' w' → Moved (R.and S) w H (x, y') w' := by
  obtain ⟨F, G, hF, hG, hd, hH⟩ := h
  refine ⟨G, hG, fun y' w' ⟨G', h1, h2, h3⟩ => ⟨fun k => F k ∨ G' k, ⟨F, G', R.touch hF h2 fun k hk hg => hd k hk hg, h1, fun k hk hg => ?_, fun k => Iff.rfl⟩, h2.mono fun k hk => .inl ((hH k).2 (.inr hk)), fun k hk => ?_⟩⟩
  · rcases h3 k hg with h | h
    · exact hd k hk h
    · have := R.lt hF k hk; omega
  · rcases hk with hk | hk
    · exact .inl ((hH k).2 (.inl hk))
    · rcases h3 k hk with h | h
      · exact .inl ((hH k).2 (.inr h))
      · exact .inr h
/-- a new object beside those that there are -/
theorem Rep.beside (h : R.on w F x) (hx : Touch F w w') (hR : R.on w' F x) (hS : S.on w' G y) (hG : ∀ k, G k → w.heap.size ≤ k) : Moved (R.and S) w F (x, y) w' := by
  refine ⟨fun k => F k ∨ G k, ⟨F, G, hR, hS, fun k hf hg => ?_, fun k => Iff.rfl⟩, hx, fun k hk => ?_⟩
  · have := R.lt h k hf; have := hG k hg; omega
  · rcases hk with hk | hk
    · exact .inl hk
    · exact .inr (hG k hk)
end

/-- What a law holds: objects of its own, made since W. -/
structure Has {X : Type} (R : Rep X) (W w : World) (x : X) : Prop where
  ex : ∃ F, R.on w F x ∧ ∀ k, F k → W.heap.size ≤ k
  ext : Ext W w
section
variable {X Y : Type} {R : Rep X} {S : Rep Y} {W w w' w'' : World} {F G : Nat → Prop} {x x' : X} {y y' : Y}
theorem Has.first (h : R.on w F x) (hF : ∀ k, F k → W.heap.size ≤ k) (hx : Ext W w) : Has R W w x := ⟨⟨F, h, hF⟩, hx⟩
theorem Has.step (h : Has R W w x) (hx : Ext w w') : Has R W w' x := by
  obtain ⟨F, h1, h2⟩ := h.ex
  exact ⟨⟨F, R.ext h1 hx, h2⟩, h.ext.then hx fun _ h => h.elim⟩
/-- open it: its footprint, and what a step of it comes to -/
theorem Has.opened (h : Has R W w x) : ∃ F, R.on w F x ∧ (∀ b, w.heap.size ≤ b → ¬ F b) ∧ ∀ x' w', Moved R w F x' w' → Has R W w' x' := by
  obtain ⟨F, h1, h2⟩ := h.ex
  refine ⟨F, h1, fun b hb hf => by have := R.lt h1 b hf; omega, fun x' w' ⟨F', g1, g2, g3⟩ => ⟨⟨F', g1, fun k hk => ?_⟩, h.ext.then g2 fun k hk => .inr (h2 k hk)⟩⟩
  rcases g3 k hk with h' | h'
  · exact h2 k h'
  · exact Nat.le_trans h.ext.size h'
theorem Has.beside (h : Has R W w x) (hx : Ext w w') (hS : S.on w' G y) (hG : ∀ k, G k → w.heap.size ≤ k) : Has (R.and S) W w' (x, y) := by
  obtain ⟨F, h1, h2⟩ := h.ex
  refine ⟨⟨fun k => F k ∨ G k, ⟨F, G, R.ext h1 hx, hS, fun k hf hg => ?_, fun k => Iff.rfl⟩, fun k hk => ?_⟩, h.ext.then hx fun _ h => h.elim⟩
  · have := R.lt h1 k hf; have := hG k hg; omega
  · rcases hk with hk | hk
    · exact h2 k hk
    · exact Nat.le_trans h.ext.size (hG k hk)
theorem Has.left (h : Has (R.and S) W w (x, y)) : Has R W w x := by
  obtain ⟨H, ⟨F, G, hF, hG, _, hH⟩, h2⟩ := h.ex
  exact ⟨⟨F, hF, fun k hk => h2 k ((hH k).2 (.inl hk))⟩, h.ext⟩
theorem Has.right (h : Has (R.and S) W w (x, y)) : Has S W w y := by
  obtain ⟨H, ⟨F, G, hF, hG, _, hH⟩, h2⟩ := h.ex
  exact ⟨⟨G, hG, fun k hk => h2 k ((hH k).2 (.inr hk))⟩, h.ext⟩
theorem Has.swap (h : Has (R.and S) W w (x, y)) : Has (S.and R) W w (y, x) := by
  obtain ⟨H, ⟨F, G, hF, hG, hd, hH⟩, h2⟩ := h.ex
  exact ⟨⟨H, ⟨G, F, hG, hF, fun k hg hf => hd k hf hg, fun k => (hH k).trans Or.comm⟩, h2⟩, h.ext⟩
end

section
variable {X Y : Type} {R : Rep X} {S : Rep Y} {W w w' : World} {x : X} {y : Y}
theorem Has.fst (h : Has (R.and S) W w (x, y)) : ∃ F, R.on w F x ∧ ∀ x' w', Moved R w F x' w' → Has (R.and S) W w' (x', y) := by
  obtain ⟨H, hH, _, hm⟩ := h.opened
  obtain ⟨F, hF, hF'⟩ := Rep.fst hH
  exact ⟨F, hF, fun x' w' m => hm _ _ (hF' x' w' m)⟩
theorem Has.snd (h : Has (R.and S) W w (x, y)) : ∃ F, S.on w F y ∧ ∀ y' w', Moved S w F y' w' → Has (R.and S) W w' (x, y') := by
  obtain ⟨H, hH, _, hm⟩ := h.opened
  obtain ⟨F, hF, hF'⟩ := Rep.snd hH
  exact ⟨F, hF, fun x' w' m => hm _ _ (hF' x' w' m)⟩
theorem Has.ff {Z : Type} {T : Rep Z} {z : Z} (h : Has ((R.and S).and T) W w ((x, y), z)) : ∃ F, R.on w F x ∧ ∀ x' w', Moved R w F x' w' → Has ((R.and S).and T) W w' ((x', y), z) := by
  obtain ⟨H, hH, hm⟩ := h.fst
  obtain ⟨F, hF, hF'⟩ := Rep.fst hH
  exact ⟨F, hF, fun x' w' m => hm _ _ (hF' x' w' m)⟩
theorem Has.fs {Z : Type} {T : Rep Z} {z : Z} (h : Has ((R.and S).and T) W w ((x, y), z)) : ∃ F, S.on w F y ∧ ∀ y' w', Moved S w F y' w' → Has ((R.and S).and T) W w' ((x, y'), z) := by
  obtain ⟨H, hH, hm⟩ := h.fst
  obtain ⟨F, hF, hF'⟩ := Rep.snd hH
  exact ⟨F, hF, fun x' w' m => hm _ _ (hF' x' w' m)⟩
/-- the one in the middle is let go -/
theorem Has.drop {Z : Type} {T : Rep Z} {z : Z} (h : Has ((R.and S).and T) W w ((x, y), z)) : Has (R.and T) W w (x, z) := by
  obtain ⟨H, ⟨F, G, ⟨F1, F2, h1, h2, h3, h4⟩, hG, hd, hH⟩, h5⟩ := h.ex
  exact ⟨⟨fun k => F1 k ∨ G k, ⟨F1, G, h1, hG, fun k hk hg => hd k ((h4 k).2 (.inl hk)) hg, fun k => Iff.rfl⟩, fun k hk => h5 k ((hH k).2 (by rcases hk with hk | hk; exact .inl ((h4 k).2 (.inl hk)); exact .inr hk))⟩, h.ext⟩
theorem Has.one (h : Has R W w x) : ∃ F, R.on w F x ∧ ∀ x' w', Moved R w F x' w' → Has R W w' x' := by
  obtain ⟨F, h1, _, h3⟩ := h.opened
  exact ⟨F, h1, h3⟩
end
/-! ### The nothing, a block, an owned list, an object with one list -/
def repNone : Rep Unit := ⟨fun _ F _ => ∀ k, ¬ F k, fun h k hk => (h k hk).elim, fun h _ => h⟩
theorem Has.none (W : World) : Has repNone W W () := ⟨⟨fun _ => False, fun _ h => h, fun _ h => h.elim⟩, Touch.refl _ W⟩
/-- a block with these cells -/
def repBlock (g : Nat) (T : TypeId) : Rep (Array Value) where
  on w F cs := (∀ k, F k ↔ k = g) ∧ w.heap[g]? = some (.cells cs T (0, 0))
  lt := fun h k hk => by rw [(h.1 k).1 hk]; exact (Array.getElem?_eq_some_iff.1 h.2).1
  keep := fun h hk => ⟨h.1, by rw [hk _ ((h.1 _).2 rfl)]; exact h.2⟩
/-- a slice value that owns a list -/
def repOwn {α : Type} [Lies α] (E : TypeId) : Rep (Value × List α) where
  on w F z := (∀ k, F k ↔ z.1.ownBlock = some k) ∧ Owns w E z.1 z.2
  lt := fun h k hk => h.2.lt k ((h.1 k).1 hk)
  keep := fun h hk => ⟨h.1, h.2.keep fun k hk' => hk k ((h.1 k).2 hk')⟩
def repHolds {α : Type} [Lies α] (g : Nat) (T E : TypeId) : Rep (List α) where
  on w F l := ∃ v, (∀ k, F k ↔ foot g v k) ∧ Holds w g T E v l
  lt := by
    rintro w F l ⟨v, hF, h⟩ k hk
    exact h.foot_lt k ((hF k).1 hk)
  keep := by
    rintro w w' F l ⟨v, hF, h⟩ hk
    refine ⟨v, hF, ?_, h.own.keep fun k hk' => hk k ((hF k).2 (.inr hk'))⟩
    rw [hk g ((hF g).2 (.inl rfl))]
    exact h.cell
theorem Has.blk {X : Type} {R : Rep X} {W w : World} {x : X} {b : Nat} {T : TypeId} {cs : Array Value} (h : Has (R.and (repBlock b T)) W w (x, cs)) : w.heap[b]? = some (.cells cs T (0, 0)) := by
  obtain ⟨F, hF, _⟩ := h.right.ex
  exact hF.2
/-- a new block beside what there is -/
theorem Has.box {X : Type} {R : Rep X} {W w : World} {x : X} (h : Has R W w x) (cs : Array Value) (T : TypeId) : Has (R.and (repBlock w.heap.size T)) W (w.alloc (.cells cs T)) (x, cs) :=
  h.beside (G := fun k => k = w.heap.size) ((Touch.refl _ w).alloc _) ⟨fun _ => Iff.rfl, heap_alloc_new _ _⟩ (fun k hk => by rw [hk]; exact Nat.le_refl _)
/-- a block's cells turn -/
theorem Has.turn {X : Type} {R : Rep X} {W w w' : World} {x : X} {b : Nat} {T : TypeId} {cs cs' : Array Value} (h : Has (R.and (repBlock b T)) W w (x, cs)) (ht : Touch (fun k => k = b) w w') (hc : w'.heap[b]? = some (.cells cs' T (0, 0))) :
    Has (R.and (repBlock b T)) W w' (x, cs') := by
  obtain ⟨F, hF, hm⟩ := h.snd
  exact hm _ _ ⟨F, ⟨hF.1, hc⟩, ht.mono fun k hk => .inl ((hF.1 k).2 hk), Fresh.refl _ _⟩
section
variable {α : Type} [Lies α] {w w' : World} {g : Nat} {T E : TypeId} {F : Nat → Prop} {l l' : List α}
theorem Owns.ext {v : Value} (h : Owns w E v l) (hx : Ext w w') : Owns w' E v l := h.touch hx fun _ _ => id
/-- behind an append onto an owned slice -/
theorem Owns.moved {wx : World} {v v' : Value} (_h : Owns w E v l) (hx : Ext w wx) (hown : Owns w' E v' l') (hgrow : wx.grownBy w' v.ownBlock) (hat : v'.ownBlock = v.ownBlock ∨ v'.ownBlock = some wx.heap.size) :
    Moved (repOwn E) w (fun k => v.ownBlock = some k) (v', l') w' := by
  refine ⟨fun k => v'.ownBlock = some k, ⟨fun k => Iff.rfl, hown⟩, (hx.mono fun _ h => h.elim).grown hgrow fun k hk => .inl hk, fun k hk => ?_⟩
  rcases hat with h1 | h1
  · exact .inl (by rw [← h1]; exact hk)
  · rw [h1] at hk; injection hk with hk; exact .inr (by have := hx.size; omega)
end
theorem Owns.reads {α : Type} [Lies α] {w : World} {e : TypeId} {A : Option Addr} {n c : Nat} {l : List α} (h : Owns w e (.slice A n c) l) : Reads w w.heap.size A l := by
  obtain ⟨A', c', he, _, _, hr⟩ := h.form
  cases he
  exact hr
theorem Holds.reads {α : Type} [Lies α] {w : World} {g : Nat} {T E : TypeId} {A : Option Addr} {n c : Nat} {l : List α} (h : Holds w g T E (.slice A n c) l) : Reads w w.heap.size A l := h.own.reads
end Go.Proofs.Ytalfbhhldfffkab
