/- Rep: objects in memory, each on a footprint of its own; what a call that moves one of them leaves of the others. No program is walked here. (And behind it: At, Later, Mem2, Lib, Order.) -/
import Derived.Test.YtalfbhhldfffkaaGreatDoorBase
import Derived.BigQuiet
import Derived.Deep.RegionWith
import Derived.Test.YtalfbhhldfffkaaGreatDoorMem
import Derived.Lib.Overlaps
import Derived.Shelf.Strings.Builder1
import Derived.Shelf.Strings.Builder2
import Derived.Shelf.Strings.OnBuilder
import Derived.Shelf.Small.Strs
import Derived.Test.YtalfbhhldfffkaaGreatDoorProg
import Derived.Test.YtalfbhhldfffkaaGreatDoorGPlain
set_option maxHeartbeats 8000000
set_option maxRecDepth 100000
namespace Go.Proofs.YtalfbhhldfffkaaGreatDoor
open Go.RowKit
structure Rep (X : Type) where
 on : World -> (Nat -> Prop) -> X -> Prop
 lt : ∀ {w F x}, on w F x -> ∀ k, F k -> k < w.heap.size
 keep : ∀ {w w' F x}, on w F x -> (∀ k, F k -> w'.heap[k]? = w.heap[k]?) -> on w' F x
def Fresh (w : World) (F F' : Nat -> Prop) : Prop := ∀ k, F' k -> F k \/ w.heap.size <= k
theorem Fresh.refl (w : World) (F : Nat -> Prop) : Fresh w F F := fun _ h => .inl h
def Moved {X : Type} (R : Rep X) (w : World) (F : Nat -> Prop) (x : X) (w' : World) : Prop := ∃ F', R.on w' F' x /\ Touch F w w' /\ Fresh w F F'
def Moves {X : Type} (R : Rep X) (w : World) (F : Nat -> Prop) (x : X) (r : Value) (e : Ending) (w' : World) : Prop := e = .returned r /\ Moved R w F x w'
section
variable {X Y : Type} {R : Rep X} {S : Rep Y} {w w' w'' wa : World} {F G H : Nat -> Prop} {x x' : X} {y y' : Y}
theorem Rep.touch (h : R.on w F x) {T : Nat -> Prop} (ht : Touch T w w') (hd : ∀ k, F k -> ¬ T k) : R.on w' F x := R.keep h fun k hk => ht.block k (R.lt h k hk) (hd k hk)
theorem Rep.ext (h : R.on w F x) (hx : Ext w w') : R.on w' F x := R.touch h hx fun _ _ => id
theorem Rep.moved (h : R.on w F x) (hx : Ext w w') : Moved R w F x w' := ⟨F, R.ext h hx, hx.mono fun _ h => h.elim, Fresh.refl _ _⟩
theorem Moved.ahead (hx : Ext w wa) (h : Moved R wa F x w') : Moved R w F x w' := by
 obtain ⟨F', h1, h2, h3⟩ := h;refine ⟨F', h1, (hx.mono (S := F) fun _ h => h.elim).then h2 fun k hk => .inl hk, fun k hk => ?_⟩;rcases h3 k hk with h | h
 ·exact .inl h
 ·exact .inr (Nat.le_trans hx.size h)
theorem Moved.behind (h : Moved R w F x w') (hx : Ext w' w'') : Moved R w F x w'' := by
 obtain ⟨F', h1, h2, h3⟩ := h;exact ⟨F', R.ext h1 hx, h2.then hx fun _ h => h.elim, h3⟩
def Rep.and (R : Rep X) (S : Rep Y) : Rep (X × Y) where
 on w H z := ∃ F G, R.on w F z.1 /\ S.on w G z.2 /\ (∀ k, F k -> ¬ G k) /\ (∀ k, H k ↔ F k \/ G k)
 lt := by
  rintro w H z ⟨F, G, hF, hG, _, hH⟩ k hk;rcases (hH k).1 hk with h | h
  ·exact R.lt hF k h
  ·exact S.lt hG k h
 keep := by
  rintro w w' H z ⟨F, G, hF, hG, hd, hH⟩ hk;exact ⟨F, G, R.keep hF fun k h => hk k ((hH k).2 (.inl h)), S.keep hG fun k h => hk k ((hH k).2 (.inr h)), hd, hH⟩
theorem Rep.fst (h : (R.and S).on w H (x, y)) : ∃ F, R.on w F x /\ ∀ x' w', Moved R w F x' w' -> Moved (R.and S) w H (x', y) w' := by
 obtain ⟨F, G, hF, hG, hd, hH⟩ := h;refine ⟨F, hF, fun x' w' ⟨F', h1, h2, h3⟩ => ⟨fun k => F' k \/ G k, ⟨F', G, h1, S.touch hG h2 fun k hk hf => hd k hf hk, fun k hk hg => ?_, fun k => Iff.rfl⟩, h2.mono fun k hk => .inl ((hH k).2 (.inl hk)), fun k hk => ?_⟩⟩
 ·rcases h3 k hk with h | h
  ·exact hd k h hg
  ·have := S.lt hG k hg; omega
 ·rcases hk with hk | hk
  ·rcases h3 k hk with h | h
   ·exact .inl ((hH k).2 (.inl h))
   ·exact .inr h
  ·exact .inl ((hH k).2 (.inr hk))
theorem Rep.snd (h : (R.and S).on w H (x, y)) : ∃ G, S.on w G y /\ ∀ y' w', Moved S w G y' w' -> Moved (R.and S) w H (x, y') w' := by
 obtain ⟨F, G, hF, hG, hd, hH⟩ := h;refine ⟨G, hG, fun y' w' ⟨G', h1, h2, h3⟩ => ⟨fun k => F k \/ G' k, ⟨F, G', R.touch hF h2 fun k hk hg => hd k hk hg, h1, fun k hk hg => ?_, fun k => Iff.rfl⟩, h2.mono fun k hk => .inl ((hH k).2 (.inr hk)), fun k hk => ?_⟩⟩
 ·rcases h3 k hg with h | h
  ·exact hd k hk h
  ·have := R.lt hF k hk; omega
 ·rcases hk with hk | hk
  ·exact .inl ((hH k).2 (.inl hk))
  ·rcases h3 k hk with h | h
   ·exact .inl ((hH k).2 (.inr h))
   ·exact .inr h
theorem Rep.beside (h : R.on w F x) (hx : Touch F w w') (hR : R.on w' F x) (hS : S.on w' G y) (hG : ∀ k, G k -> w.heap.size <= k) : Moved (R.and S) w F (x, y) w' := by
 refine ⟨fun k => F k \/ G k, ⟨F, G, hR, hS, fun k hf hg => ?_, fun k => Iff.rfl⟩, hx, fun k hk => ?_⟩
 ·have := R.lt h k hf; have := hG k hg; omega
 ·rcases hk with hk | hk
  ·exact .inl hk
  ·exact .inr (hG k hk)
end
structure Has {X : Type} (R : Rep X) (W w : World) (x : X) : Prop where
 ex : ∃ F, R.on w F x /\ ∀ k, F k -> W.heap.size <= k
 ext : Ext W w
section
variable {X Y : Type} {R : Rep X} {S : Rep Y} {W w w' w'' : World} {F G : Nat -> Prop} {x x' : X} {y y' : Y}
theorem Has.step (h : Has R W w x) (hx : Ext w w') : Has R W w' x := by
 obtain ⟨F, h1, h2⟩ := h.ex;exact ⟨⟨F, R.ext h1 hx, h2⟩, h.ext.then hx fun _ h => h.elim⟩
theorem Has.opened (h : Has R W w x) : ∃ F, R.on w F x /\ (∀ b, w.heap.size <= b -> ¬ F b) /\ ∀ x' w', Moved R w F x' w' -> Has R W w' x' := by
 obtain ⟨F, h1, h2⟩ := h.ex;refine ⟨F, h1, fun b hb hf => by have := R.lt h1 b hf; omega, fun x' w' ⟨F', g1, g2, g3⟩ => ⟨⟨F', g1, fun k hk => ?_⟩, h.ext.then g2 fun k hk => .inr (h2 k hk)⟩⟩;rcases g3 k hk with h' | h'
 ·exact h2 k h'
 ·exact Nat.le_trans h.ext.size h'
theorem Has.beside (h : Has R W w x) (hx : Ext w w') (hS : S.on w' G y) (hG : ∀ k, G k -> w.heap.size <= k) : Has (R.and S) W w' (x, y) := by
 obtain ⟨F, h1, h2⟩ := h.ex;refine ⟨⟨fun k => F k \/ G k, ⟨F, G, R.ext h1 hx, hS, fun k hf hg => ?_, fun k => Iff.rfl⟩, fun k hk => ?_⟩, h.ext.then hx fun _ h => h.elim⟩
 ·have := R.lt h1 k hf; have := hG k hg; omega
 ·rcases hk with hk | hk
  ·exact h2 k hk
  ·exact Nat.le_trans h.ext.size (hG k hk)
theorem Has.left (h : Has (R.and S) W w (x, y)) : Has R W w x := by
 obtain ⟨H, ⟨F, G, hF, hG, _, hH⟩, h2⟩ := h.ex;exact ⟨⟨F, hF, fun k hk => h2 k ((hH k).2 (.inl hk))⟩, h.ext⟩
theorem Has.right (h : Has (R.and S) W w (x, y)) : Has S W w y := by
 obtain ⟨H, ⟨F, G, hF, hG, _, hH⟩, h2⟩ := h.ex;exact ⟨⟨G, hG, fun k hk => h2 k ((hH k).2 (.inr hk))⟩, h.ext⟩
theorem Has.swap (h : Has (R.and S) W w (x, y)) : Has (S.and R) W w (y, x) := by
 obtain ⟨H, ⟨F, G, hF, hG, hd, hH⟩, h2⟩ := h.ex;exact ⟨⟨H, ⟨G, F, hG, hF, fun k hg hf => hd k hf hg, fun k => (hH k).trans Or.comm⟩, h2⟩, h.ext⟩
end
section
variable {X Y : Type} {R : Rep X} {S : Rep Y} {W w w' : World} {x : X} {y : Y}
theorem Has.fst (h : Has (R.and S) W w (x, y)) : ∃ F, R.on w F x /\ ∀ x' w', Moved R w F x' w' -> Has (R.and S) W w' (x', y) := by
 obtain ⟨H, hH, _, hm⟩ := h.opened;obtain ⟨F, hF, hF'⟩ := Rep.fst hH;exact ⟨F, hF, fun x' w' m => hm _ _ (hF' x' w' m)⟩
theorem Has.snd (h : Has (R.and S) W w (x, y)) : ∃ F, S.on w F y /\ ∀ y' w', Moved S w F y' w' -> Has (R.and S) W w' (x, y') := by
 obtain ⟨H, hH, _, hm⟩ := h.opened;obtain ⟨F, hF, hF'⟩ := Rep.snd hH;exact ⟨F, hF, fun x' w' m => hm _ _ (hF' x' w' m)⟩
theorem Has.fs {Z : Type} {T : Rep Z} {z : Z} (h : Has ((R.and S).and T) W w ((x, y), z)) : ∃ F, S.on w F y /\ ∀ y' w', Moved S w F y' w' -> Has ((R.and S).and T) W w' ((x, y'), z) := by
 obtain ⟨H, hH, hm⟩ := h.fst;obtain ⟨F, hF, hF'⟩ := Rep.snd hH;exact ⟨F, hF, fun x' w' m => hm _ _ (hF' x' w' m)⟩
theorem Has.drop {Z : Type} {T : Rep Z} {z : Z} (h : Has ((R.and S).and T) W w ((x, y), z)) : Has (R.and T) W w (x, z) := by
 obtain ⟨H, ⟨F, G, ⟨F1, F2, h1, h2, h3, h4⟩, hG, hd, hH⟩, h5⟩ := h.ex;exact ⟨⟨fun k => F1 k \/ G k, ⟨F1, G, h1, hG, fun k hk hg => hd k ((h4 k).2 (.inl hk)) hg, fun k => Iff.rfl⟩, fun k hk => h5 k ((hH k).2 (by rcases hk with hk | hk; exact .inl ((h4 k).2 (.inl hk)); exact .inr hk))⟩, h.ext⟩
theorem Has.one (h : Has R W w x) : ∃ F, R.on w F x /\ ∀ x' w', Moved R w F x' w' -> Has R W w' x' := by
 obtain ⟨F, h1, _, h3⟩ := h.opened;exact ⟨F, h1, h3⟩
end
def repNone : Rep Unit := ⟨fun _ F _ => ∀ k, ¬ F k, fun h k hk => (h k hk).elim, fun h _ => h⟩
theorem Has.none (W : World) : Has repNone W W () := ⟨⟨fun _ => False, fun _ h => h, fun _ h => h.elim⟩, Touch.refl _ W⟩
def repBlock (g : Nat) (T : TypeId) : Rep (Array Value) where
 on w F cs := (∀ k, F k ↔ k = g) /\ w.heap[g]? = some (.cells cs T (0, 0))
 lt := fun h k hk => by rw [(h.1 k).1 hk]; exact (aG h.2).1
 keep := fun h hk => ⟨h.1, by rw [hk _ ((h.1 _).2 rfl)]; exact h.2⟩
def repOwn {α : Type} [Lies α] (E : TypeId) : Rep (Value × List α) where
 on w F z := (∀ k, F k ↔ z.1.ownBlock = some k) /\ Owns w E z.1 z.2
 lt := fun h k hk => h.2.lt k ((h.1 k).1 hk)
 keep := fun h hk => ⟨h.1, h.2.keep fun k hk' => hk k ((h.1 k).2 hk')⟩
def repHolds {α : Type} [Lies α] (g : Nat) (T E : TypeId) : Rep (List α) where
 on w F l := ∃ v, (∀ k, F k ↔ foot g v k) /\ Holds w g T E v l
 lt := by
  rintro w F l ⟨v, hF, h⟩ k hk;exact h.foot_lt k ((hF k).1 hk)
 keep := by
  rintro w w' F l ⟨v, hF, h⟩ hk;refine ⟨v, hF, ?_, h.own.keep fun k hk' => hk k ((hF k).2 (.inr hk'))⟩;rw [hk g ((hF g).2 (.inl rfl))];exact h.cell
theorem Has.blk {X : Type} {R : Rep X} {W w : World} {x : X} {b : Nat} {T : TypeId} {cs : Array Value} (h : Has (R.and (repBlock b T)) W w (x, cs)) : w.heap[b]? = some (.cells cs T (0, 0)) := by
 obtain ⟨F, hF, _⟩ := h.right.ex;exact hF.2
theorem Has.box {X : Type} {R : Rep X} {W w : World} {x : X} (h : Has R W w x) (cs : Array Value) (T : TypeId) : Has (R.and (repBlock w.heap.size T)) W (w.alloc (.cells cs T)) (x, cs) :=
 h.beside (G := fun k => k = w.heap.size) ((Touch.refl _ w).alloc _) ⟨fun _ => Iff.rfl, heap_alloc_new _ _⟩ (fun k hk => by rw [hk]; exact Nat.le_refl _)
theorem Has.turn {X : Type} {R : Rep X} {W w w' : World} {x : X} {b : Nat} {T : TypeId} {cs cs' : Array Value} (h : Has (R.and (repBlock b T)) W w (x, cs)) (ht : Touch (fun k => k = b) w w') (hc : w'.heap[b]? = some (.cells cs' T (0, 0))) :
 Has (R.and (repBlock b T)) W w' (x, cs') := by
 obtain ⟨F, hF, hm⟩ := h.snd;exact hm _ _ ⟨F, ⟨hF.1, hc⟩, ht.mono fun k hk => .inl ((hF.1 k).2 hk), Fresh.refl _ _⟩
section
variable {α : Type} [Lies α] {w w' : World} {g : Nat} {T E : TypeId} {F : Nat -> Prop} {l l' : List α}
theorem Owns.ext {v : Value} (h : Owns w E v l) (hx : Ext w w') : Owns w' E v l := h.touch hx fun _ _ => id
theorem Owns.moved {wx : World} {v v' : Value} (_h : Owns w E v l) (hx : Ext w wx) (hown : Owns w' E v' l') (hgrow : wx.grownBy w' v.ownBlock) (hat : v'.ownBlock = v.ownBlock \/ v'.ownBlock = some wx.heap.size) :
 Moved (repOwn E) w (fun k => v.ownBlock = some k) (v', l') w' := by
 refine ⟨fun k => v'.ownBlock = some k, ⟨fun k => Iff.rfl, hown⟩, (hx.mono fun _ h => h.elim).grown hgrow fun k hk => .inl hk, fun k hk => ?_⟩;rcases hat with h1 | h1
 ·exact .inl (by rw [<- h1]; exact hk)
 ·rw [h1] at hk; injection hk with hk; exact .inr (by have := hx.size; omega)
end
theorem Owns.reads {α : Type} [Lies α] {w : World} {e : TypeId} {A : Option Addr} {n c : Nat} {l : List α} (h : Owns w e (.slice A n c) l) : Reads w w.heap.size A l := by
 obtain ⟨A', c', he, _, _, hr⟩ := h.form;cases he;exact hr
theorem Holds.reads {α : Type} [Lies α] {w : World} {g : Nat} {T E : TypeId} {A : Option Addr} {n c : Nat} {l : List α} (h : Holds w g T E (.slice A n c) l) : Reads w w.heap.size A l := h.own.reads
section
variable {α β : Type} [Lies α] [Lies β] {w : World} {a : Addr} {x : α}
theorem At.blk (h : At w a x) : ∃ cs t fr, w.heap[a.block]? = some (.cells cs t fr) /\ ∀ j v, (Lies.cells x)[j]? = some v -> cs[a.off + j]? = some v := by
 have hpos := Lies.pos (α := α);have hsz := Lies.size_eq x;have h0 := h 0 _ (Array.getElem?_eq_getElem (show 0 < (Lies.cells x).size by omega));have e0 : a.add 0 = a := by unfold Addr.add; rw [if_pos rfl]
 rw [e0] at h0;unfold World.cell? at h0;split at h0
 case h_2 => cases h0
 rename_i cs t fr hg;refine ⟨cs, t, fr, hg, fun j v hj => ?_⟩;have hj' := h j v hj;by_cases hz : j = 0
 ·subst hz;rw [e0] at hj';unfold World.cell? at hj';rw [hg] at hj';simp only at hj';split at hj'
  ·cases hj'
  ·simpa using hj'
 ·have e : a.add j = ⟨a.block, a.off + j, none⟩ := by unfold Addr.add; rw [if_neg hz]
  rw [e, cell_of hg] at hj';exact hj'
theorem objPart_at (h : At w a x) (z : β) (n : Nat) (hz : ∀ j v, (Lies.cells z)[j]? = some v -> (Lies.cells x)[n + j]? = some v) : objPart (a.off + n) (Lies.size β) (w.heap[a.block]?) = some (Lies.cells z) := by
 obtain ⟨cs, t, fr, hg, hc⟩ := h.blk;have hpos := Lies.pos (α := β);have hsz := Lies.size_eq z
 have hall : ∀ j (hj : j < (Lies.cells z).size), cs[a.off + n + j]? = some (Lies.cells z)[j] := fun j hj => by
  rw [Nat.add_assoc];exact hc _ _ (hz j _ (Array.getElem?_eq_getElem hj))
 have hle : a.off + n + Lies.size β <= cs.size := by
  have := (aG (hall (Lies.size β - 1) (by omega))).1;omega
 rw [hg, objPart_cells _ _ _ _ _ hle];congr 1
 refine Array.ext (by rw [Array.size_extract]; omega) fun j h1 h2 => ?_;rw [Array.getElem_extract];have := hall j h2;exact (aG this).2
end
theorem Reads.more {α : Type} [Lies α] {w : World} {B B' : Nat} {A : Option Addr} {l : List α} (h : Reads w B A l) (hb : B <= B') : Reads w B' A l := fun k x hk => by
 obtain ⟨ad, e, hlt, hat⟩ := h k x hk;exact ⟨ad, e, by omega, hat⟩
theorem Reads.ext {α : Type} [Lies α] {W w : World} {A : Option Addr} {l : List α} (h : Reads W W.heap.size A l) (hx : Ext W w) : Reads w w.heap.size A l := (h.below fun k hk => hx.block k hk id).more hx.size
structure Later (w : World) where
 to_ : World
 ext : Ext w to_
instance (w : World) : Nonempty (Later w) := ⟨⟨w, Touch.refl _ w⟩⟩
def lay (L : List Value) (o : Nat) (cs : List Value) : List Value := L.take o ++ cs ++ L.drop (o + cs.length)
theorem length_lay {L : List Value} {o : Nat} {cs : List Value} (h : o + cs.length <= L.length) : (lay L o cs).length = L.length := by simp [lay]; omega
theorem lay_take {L : List Value} {o : Nat} {cs : List Value} (h : o <= L.length) : (lay L o cs).take (o + cs.length) = L.take o ++ cs := by
 unfold lay;rw [show o + cs.length = (L.take o ++ cs).length by simp; omega, List.take_left]
theorem lay_take_lo {L : List Value} {o k : Nat} {cs : List Value} (h : k <= o) (ho : o <= L.length) : (lay L o cs).take k = L.take k := by
 unfold lay;rw [List.append_assoc, List.take_append_of_le_length (by simp; omega), List.take_take, Nat.min_eq_left h]
section
variable {α : Type} [Lies α] {P : Program}
theorem lay_insert {Y : List Value} {l : List α} {x : α} {i : Nat} (hi : i <= l.length) (hY : (l.length + 1) * Lies.size α <= Y.length) (ht : Y.take (i * Lies.size α) = flat (l.take i)) :
 (lay (lay Y (i * Lies.size α) (flat [x])) ((i + 1) * Lies.size α) (flat (l.drop i))).take ((l.length + 1) * Lies.size α) = flat (l.take i ++ x :: l.drop i) /\
 (lay (lay Y ((i + 1) * Lies.size α) (flat (l.drop i))) (i * Lies.size α) (flat [x])).take ((l.length + 1) * Lies.size α) = flat (l.take i ++ x :: l.drop i) := by
 have e1 : (i + 1) * Lies.size α = i * Lies.size α + (flat [x]).length := by rw [length_flat, Nat.add_mul]; simp
 have e2 : (l.length + 1) * Lies.size α = (i + 1) * Lies.size α + (flat (l.drop i)).length := by
  rw [length_flat, List.length_drop, <- Nat.add_mul]; congr 1; omega
 have hle : i * Lies.size α <= Y.length := by omega
 have hle2 : (i + 1) * Lies.size α <= Y.length := by omega
 have hx : flat (l.take i ++ x :: l.drop i) = Y.take (i * Lies.size α) ++ flat [x] ++ flat (l.drop i) := by rw [ht, flat_append, flat_cons, flat_one, List.append_assoc]
 constructor
 ·rw [e2, lay_take (by rw [length_lay (by omega)]; exact hle2), hx];congr 1
  rw [e1, lay_take hle]
 ·have h1 : (lay Y ((i + 1) * Lies.size α) (flat (l.drop i))).length = Y.length := length_lay (by omega);unfold lay at h1 ⊢;rw [<- e1];have h2 : (Y.take ((i + 1) * Lies.size α) ++ flat (l.drop i) ++ Y.drop ((i + 1) * Lies.size α + (flat (l.drop i)).length)).take (i * Lies.size α) = Y.take (i * Lies.size α) := lay_take_lo (by omega) hle2
  have h3 : (Y.take ((i + 1) * Lies.size α) ++ flat (l.drop i) ++ Y.drop ((i + 1) * Lies.size α + (flat (l.drop i)).length)).drop ((i + 1) * Lies.size α) = flat (l.drop i) ++ Y.drop ((i + 1) * Lies.size α + (flat (l.drop i)).length) := by
   rw [List.append_assoc];have := List.drop_left (l₁ := Y.take ((i + 1) * Lies.size α)) (l₂ := flat (l.drop i) ++ Y.drop ((i + 1) * Lies.size α + (flat (l.drop i)).length));rwa [show (Y.take ((i + 1) * Lies.size α)).length = (i + 1) * Lies.size α by simp; omega] at this
  rw [h2, h3, <- List.append_assoc, hx]
  rw [show (l.length + 1) * Lies.size α = (Y.take (i * Lies.size α) ++ flat [x] ++ flat (l.drop i)).length by
   rw [e2, e1, List.length_append, List.length_append, List.length_take, Nat.min_eq_left hle], List.take_left]
theorem run_copy_in {w : World} {e : TypeId} {bytes : Nat} (hE : ElemOk P e α bytes) (t ty : TypeId) (ht : P.underlying t = some (.slice e)) {g o dLen dCap sLen sCap : Nat} {ad : Addr} {cur : List Value} {T : TypeId}
 (hg : w.heap[g]? = some (.cells cur.toArray T (0, 0))) (r : List α) (hn : r.length = Nat.min sLen dLen) (hsrc : ∀ j v, (flat r)[j]? = some v -> w.cell? (ad.add j) = some v) (hfit : o + (flat r).length <= cur.length) :
 (Builtin.copy_ #[t, t] ty #[.slice (some ⟨g, o, none⟩) dLen dCap, .slice (some ad) sLen sCap]).run P w = .ok (goInt r.length) (w.setRow g (lay cur o (flat r)).toArray) := by
 obtain ⟨i, z, hi, hz, hs, hb, hzs, h1⟩ := hE.ex;have hl : (Builtin.firstCells i.size r.length (.slice (some ad) sLen sCap)).run P w = .ok (flat r).toArray w := run_firstCells_some w i.size r.length ad sLen sCap (flat r) (by rw [length_flat, hs]) hsrc;have hst := run_storeCells_at P g o T (flat r) 0 cur.toArray w hg (by simpa using hfit) (flat_one_cell r);simp only [Nat.add_zero] at hst;simp [Builtin.copy_, run_underlying ht, Builtin.lenOf, sizeOf, typeInfo, hi, <- hn, hl, hst, lay]
theorem wp_copy_eq {o : Oper} {a : Act} {w w' : World} {K : Act -> World -> Prop} {Q : Exit -> Act -> World -> Prop} (s x : Operand) (t : TypeId)
 (ho : o.op = .call { callee := .builtin .copy, args := #[s, x], argTypes := #[t, t] }) (vs vx v : Value) (hs : a.eval s = vs) (hx : a.eval x = vx)
 (hrun : (Builtin.copy_ #[t, t] o.type #[vs, vx]).run P w = .ok v w') (h : K (a.put o.dst v) w') : o.wp P a w K Q := by
 unfold Oper.wp execOp;simp only [ho, resolve, invoke, builtin, Sem.run_bind, Sem.run_pure, Result.andThen_ok, List.map_toArray, List.map_cons, List.map_nil, hs, hx, hrun];exact h
theorem wpList_copy_eq {ops : Array Oper} {rest : List Oper} {o : Oper} {a : Act} {w w' : World} {Q : Exit -> Act -> World -> Prop} (hgd : o.guard = none) (s x : Operand) (t : TypeId)
 (ho : o.op = .call { callee := .builtin .copy, args := #[s, x], argTypes := #[t, t] }) (vs vx v : Value) (hs : a.eval s = vs) (hx : a.eval x = vx)
 (hrun : (Builtin.copy_ #[t, t] o.type #[vs, vx]).run P w = .ok v w') (h : wpList P ops Q rest (a.put o.dst v) w') : wpList P ops Q (o :: rest) a w :=
 wpList_plain hgd fun _ hK => wp_copy_eq s x t ho vs vx v hs hx hrun (hK _ _ h)
theorem step_copy_eq {ops : Array Oper} {o : Oper} {a : Act} {w w' : World} {K : Act -> World -> Prop} {Q : Exit -> Act -> World -> Prop} {E : Prop} (hgd : o.guard = none) (s x : Operand) (t : TypeId)
 (ho : o.op = .call { callee := .builtin .copy, args := #[s, x], argTypes := #[t, t] }) (vs vx v : Value) (hs : a.eval s = vs) (hx : a.eval x = vx)
 (hrun : (Builtin.copy_ #[t, t] o.type #[vs, vx]).run P w = .ok v w') (h : K (a.put o.dst v) w') : if Region.wanted o (yielded ops a.tmps) = true then Oper.wp P o a w K Q else E := by
 have hw : Region.wanted o (yielded ops a.tmps) = true := by simp [Region.wanted, hgd]
 rw [if_pos hw];exact wp_copy_eq s x t ho vs vx v hs hx hrun h
theorem run_append_zeros {w : World} {e : TypeId} {bytes : Nat} (hE : ElemOk P e α bytes) (t tn ty : TypeId) (ht : P.underlying t = some (.slice e)) (htn : P.underlying tn = some (.int .i64)) {b : Addr} {sLen cap k : Nat} (r : List α) (hr : r.length = sLen)
 (hsrc : ∀ j v, (flat r)[j]? = some v -> w.cell? (b.add j) = some v) (hroom : cap < sLen + k) (hk1 : 0 < k) (hsz : (sLen + k) * bytes <= 140737488355328) :
 ∃ Y c, (Builtin.append_ #[t, tn] ty #[.slice (some b) sLen cap, .int .i64 k]).run P w = .ok (.slice (some ⟨w.heap.size, 0, none⟩) (sLen + k) c) (w.drew.alloc (.cells (flat r ++ Y).toArray e)) /\
   sLen + k <= c /\ c <= maxLen /\ (flat r ++ Y).length = c * Lies.size α := by
 obtain ⟨i, z, hi, hz, hs, hb, hzs, h1⟩ := hE.ex;have hpos := hE.pos;have hle : sLen + k <= 140737488355328 := Nat.le_trans (Nat.le_mul_of_pos_right _ hpos) hsz;have hk : (k : Int) <= 140737488355328 := by omega
 have hw : IntKind.i64.wrap (k : Int) = k := by rw [IntKind.wrap_i64]; omega
 have hn : ¬ (sLen + k <= cap) := by omega
 have hneg : ¬ ((k : Int) < 0) := by omega
 have hkb : k * bytes <= 140737488355328 := Nat.le_trans (Nat.mul_le_mul_right _ (by omega)) hsz;have h48i : ¬ (281474976710656 < (k : Int) * (i.bytes : Int)) := by rw [<- Int.natCast_mul, hb]; omega
 have h63' : ¬ (9223372036854775807 < ((sLen : Int) + (k : Int))) := by omega
 have h48' : ¬ (281474976710656 < Builtin.nextslicecap (sLen + k) cap * i.bytes) := by rw [hb]; exact Nat.not_lt.2 (growslice_fits hroom hsz)
 have hge := grownCap_ge w (sLen + k) cap e;have hcm : grownCap w (sLen + k) cap e <= maxLen := grownCap_le_maxLen w (sLen + k) cap e (by unfold maxLen; omega);have hfo : (Builtin.firstCells i.size sLen (.slice (some b) sLen cap)).run P w.drew = .ok (flat r).toArray w.drew := run_firstCells_some (P := P) w.drew i.size sLen b sLen cap (flat r) (by rw [length_flat, hr, hs]) (by simpa using hsrc);refine ⟨(Builtin.zeroCells z.cells k).toList ++ (Builtin.zeroCells z.cells (grownCap w (sLen + k) cap e - (sLen + k))).toList, grownCap w (sLen + k) cap e, ?_, hge, hcm, ?_⟩
 ·have hk0 : ¬ (k * i.size = 0) := Nat.mul_ne_zero (by omega) (by rw [hs]; have := Lies.pos (α := α); omega);simp [Builtin.append_, run_underlying ht, run_underlying htn, sizeOf, typeInfo, zeroValue, hi, hz, asInt, asIntOf, hw, hn, hneg, hk0, h63', h48', h48i, Question.forced, hfo, newRow, grownCap];congr 2
  apply Array.ext';simp
 ·simp only [List.length_append, Array.length_toList, size_zeroCells, hzs, length_flat, hr, <- Nat.add_mul];congr 1
  omega
theorem wpList_append_eq2 {ops : Array Oper} {rest : List Oper} {o : Oper} {a : Act} {w w' : World} {Q : Exit -> Act -> World -> Prop} (hgd : o.guard = none) (s x : Operand) (t tn : TypeId)
 (ho : o.op = .call { callee := .builtin .append, args := #[s, x], argTypes := #[t, tn] }) (vs vx v : Value) (hs : a.eval s = vs) (hx : a.eval x = vx)
 (hrun : (Builtin.append_ #[t, tn] o.type #[vs, vx]).run P w = .ok v w') (h : wpList P ops Q rest (a.put o.dst v) w') : wpList P ops Q (o :: rest) a w :=
 wpList_plain hgd fun _ hK => by
  unfold Oper.wp execOp;simp only [ho, resolve, invoke, builtin, Sem.run_bind, Sem.run_pure, Result.andThen_ok, List.map_toArray, List.map_cons, List.map_nil, hs, hx, hrun];exact hK _ _ h
end
theorem reads_row {α : Type} [Lies α] {w : World} {b : Nat} {cs : Array Value} {T : TypeId} {fr : Nat × Nat} (h : w.heap[b]? = some (.cells cs T fr)) {l : List α} (hl : ∀ (j : Nat) (v : Value), (flat l)[j]? = some v -> cs[j]? = some v) {B : Nat} (hb : b < B) : Reads w B (some ⟨b, 0, none⟩) l := fun k x hk => by
 refine ⟨⟨b, 0, none⟩, rfl, hb, fun j v hv => ?_⟩;have h1 : (((⟨b, 0, none⟩ : Addr).add (k * Lies.size α)).add j) = ⟨b, k * Lies.size α + j, none⟩ := by unfold Addr.add; split <;> split <;> simp_all
 rw [h1, cell_of h];exact hl _ _ (flat_get l k x hk j v hv)
end Go.Proofs.YtalfbhhldfffkaaGreatDoor
namespace Go.Proofs.YtalfbhhldfffkaaGreatDoor
open Go.Shelf Go.RowKit
def lays156_ren : Go.Shelf.Ren := ⟨fun | 156 => 53 | 165 => 83 | 166 => 52 | 169 => 16 | 240 => 82 | 241 => 124 | 276 => 123 | 277 => 149 | n => n, fun | 31 => 22 | 9 => 9 | 3 => 3 | 4 => 4 | 0 => 0 | 20 => 20 | 72 => 42 | 76 => 95 | 70 => 39 | 37 => 40 | 75 => 94 | 127 => 90 | 164 => 177 | 5 => 5 | 80 => 51 | n => n, fun | n => n⟩
theorem lays156 : Go.Proofs.Lays.n156 Tryz.prog lays156_ren := {
 mixed := by kernel_rfl
 f156 := Tryz.func53.trans (congrArg some (by kernel_rfl))
 f165 := Tryz.func83.trans (congrArg some (by kernel_rfl))
 f166 := Tryz.func52.trans (congrArg some (by kernel_rfl))
 f169 := Tryz.func16.trans (congrArg some (by kernel_rfl))
 f240 := Tryz.func82.trans (congrArg some (by kernel_rfl))
 f241 := Tryz.func124.trans (congrArg some (by kernel_rfl))
 f276 := Tryz.func123.trans (congrArg some (by kernel_rfl))
 f277 := Tryz.func149.trans (congrArg some (by kernel_rfl))
 t0 := Tryz.underlying0
 a0 := Tryz.isAgg0
 z0 := Tryz.sizeOf0
 v0 := Tryz.zeroValue0
 t3 := Tryz.underlying3
 a3 := Tryz.isAgg3
 z3 := Tryz.sizeOf3
 v3 := Tryz.zeroValue3
 t4 := Tryz.underlying4
 a4 := Tryz.isAgg4
 z4 := Tryz.sizeOf4
 v4 := Tryz.zeroValue4
 t9 := Tryz.underlying9
 a9 := Tryz.isAgg9
 z9 := Tryz.sizeOf9
 v9 := Tryz.zeroValue9
 t20 := Tryz.underlying20
 a20 := Tryz.isAgg20
 z20 := Tryz.sizeOf20
 v20 := Tryz.zeroValue20
 t31 := Tryz.underlying22
 a31 := Tryz.isAgg22
 z31 := Tryz.sizeOf22
 v31 := Tryz.zeroValue22
 t37 := Tryz.underlying40
 a37 := Tryz.isAgg40
 z37 := Tryz.sizeOf40
 v37 := Tryz.zeroValue40
 t70 := Tryz.underlying39
 a70 := Tryz.isAgg39
 z70 := Tryz.sizeOf39
 v70 := Tryz.zeroValue39
 t72 := Tryz.underlying42
 a72 := Tryz.isAgg42
 z72 := Tryz.sizeOf42
 v72 := Tryz.zeroValue42
 t75 := Tryz.underlying94
 a75 := Tryz.isAgg94
 z75 := Tryz.sizeOf94
 v75 := Tryz.zeroValue94
 t76 := Tryz.underlying95
 a76 := Tryz.isAgg95
 z76 := Tryz.sizeOf95
 v76 := Tryz.zeroValue95
 t127 := Tryz.underlying90
 a127 := Tryz.isAgg90
 z127 := Tryz.sizeOf90
 v127 := Tryz.zeroValue90
 t164 := Tryz.underlying177
 a164 := Tryz.isAgg177
 z164 := Tryz.sizeOf177
 v164 := Tryz.zeroValue177 }
theorem Builder_Extra_156 : Builder.Extra Tryz.prog lays156_ren := {
 sizeBuilder := by kernel_rfl
 liesBuilder := by kernel_rfl
 t5 := Tryz.underlying5
 a5 := Tryz.isAgg5
 z5 := Tryz.sizeOf5
 v5 := Tryz.zeroValue5
 infoByte := by kernel_rfl
 cellsByte := by kernel_rfl
 sizeByte := by kernel_rfl
 neB5 := by decide }
theorem strings_Join_none (a : Option Addr) (c : Nat) (sep : ByteArray) (w : World) :
 Calls Tryz.prog 53 #[.slice a 0 c, .string sep] w fun e w' => e = .returned (.string ⟨#[]⟩) /\ w' = w := Any.strings_Join_none lays156 Builder_Extra_156 a c sep w
theorem strings_Join (bk o c : Nat) (xs : List ByteArray) (sep : ByteArray) (w : World) (hcells : ∀ (j : Nat) x, xs[j]? = some x -> w.cell? ⟨bk, o + j, none⟩ = some (.string x)) (hbk : bk < w.heap.size) (hN : xs.length <= 140737488355328) (hcap : xs.length <= c) (hlen : (Lib.join (xs.map (·.data.toList)) sep.data.toList).length <= 140737488355328) :
 Calls Tryz.prog 53 #[.slice (some ⟨bk, o, none⟩) xs.length c, .string sep] w fun e w' => e = .returned (.string ⟨(Lib.join (xs.map (·.data.toList)) sep.data.toList).toArray⟩) /\ Below w.heap.size w w' := Any.strings_Join lays156 Builder_Extra_156 bk o c xs sep w hcells hbk hN hcap hlen
def lays106_ren : Go.Shelf.Ren := ⟨fun | 106 => 175 | 213 => 180 | 265 => 184 | n => n, fun | 9 => 9 | 3 => 3 | n => n, fun | n => n⟩
theorem lays106 : Go.Proofs.Lays.n106 Tryz.prog lays106_ren := {
 mixed := by kernel_rfl
 f106 := Tryz.func175.trans (congrArg some (by kernel_rfl))
 f213 := Tryz.func180.trans (congrArg some (by kernel_rfl))
 f265 := Tryz.func184.trans (congrArg some (by kernel_rfl))
 t3 := Tryz.underlying3
 a3 := Tryz.isAgg3
 z3 := Tryz.sizeOf3
 v3 := Tryz.zeroValue3
 t9 := Tryz.underlying9
 a9 := Tryz.isAgg9
 z9 := Tryz.sizeOf9
 v9 := Tryz.zeroValue9 }
theorem strings_Compare (a b : ByteArray) (w : World) :
 Calls Tryz.prog 175 #[.string a, .string b] w fun e w' => e = .returned (.int .i64 (Lib.compareBytes a.data.toList b.data.toList)) /\ w' = w := Any.strings_Compare lays106 a b w
def cmp3 (a b : ByteArray) : Int := Lib.compareBytes a.data.toList b.data.toList
theorem compareBytes_less (x y : List UInt8) : (Lib.compareBytes x y < 0) = (x < y) := by
 induction x generalizing y with
 | nil => cases y <;> simp [Lib.compareBytes]
 | cons a x ih =>
   cases y with
   | nil => simp [Lib.compareBytes]
   | cons b y =>
     unfold Lib.compareBytes;rw [List.cons_lt_cons_iff];by_cases h1 : a < b
     ·simp [h1]
     ·by_cases h2 : b < a
      ·have : a ≠ b := by rintro rfl; exact h1 h2
       simp [h1, h2, this]
      ·have : a = b := by
        apply UInt8.toNat_inj.1;have h1' : ¬ a.toNat < b.toNat := h1;have h2' : ¬ b.toNat < a.toNat := h2;omega
       subst this;simp [ih]
theorem compareBytes_same (x y : List UInt8) : (Lib.compareBytes x y = 0) = (x = y) := by
 induction x generalizing y with
 | nil => cases y <;> simp [Lib.compareBytes]
 | cons a x ih =>
   cases y with
   | nil => simp [Lib.compareBytes]
   | cons b y =>
     unfold Lib.compareBytes;by_cases h1 : a < b
     ·have : a ≠ b := by rintro rfl; exact absurd h1 (Nat.lt_irrefl _)
      simp [h1, this]
     ·by_cases h2 : b < a
      ·have : a ≠ b := by rintro rfl; exact h1 h2
       simp [h1, h2, this]
      ·have : a = b := by
        apply UInt8.toNat_inj.1;have h1' : ¬ a.toNat < b.toNat := h1;have h2' : ¬ b.toNat < a.toNat := h2;omega
       subst this;simp [ih]
theorem cmp3_less (a b : ByteArray) : (cmp3 a b < 0) = (bless a b = true) := by
 unfold cmp3;rw [compareBytes_less, bless_iff, decide_eq_true_eq, ByteArray.toList_eq, ByteArray.toList_eq]
theorem cmp3_same (a b : ByteArray) : (cmp3 a b = 0) = (a = b) := by
 unfold cmp3;rw [compareBytes_same, <- ByteArray.toList_eq, <- ByteArray.toList_eq];exact propext ⟨toList_inj, fun h => by rw [h]⟩
theorem compare_names (a b : ByteArray) (w : World) : Calls Tryz.prog 175 #[.string a, .string b] w fun e w' => e = .returned (.int .i64 (cmp3 a b)) /\ w' = w := strings_Compare a b w
theorem joinSp_eq (xs : List ByteArray) : (⟨(Lib.join (xs.map (·.data.toList)) [32]).toArray⟩ : ByteArray) = joinSp xs := by
 cases xs with
 | nil => rfl
 | cons x l =>
   rw [List.map_cons, Lib.join_cons];show _ = l.foldl (fun s y => s ++ (⟨#[32]⟩ : ByteArray) ++ y) x;induction l generalizing x with
   | nil => simp [Lib.joinTail]
   | cons y l ih =>
     rw [List.foldl_cons, <- ih];simp [Lib.joinTail, ByteArray.data_append]
def JoinPost (w : World) (xs : List ByteArray) (e : Ending) (w' : World) : Prop := e = .returned (.string (joinSp xs)) /\ Ext w w'
theorem join_names (w : World) {E : TypeId} (A : Option Addr) (n c : Nat) (xs : List ByteArray) (h : Owns w E (.slice A n c) xs) (hn : xs.length <= 100000) (hlen : (Lib.join (xs.map (·.data.toList)) [32]).length <= 140737488355328) :
 Calls Tryz.prog 53 #[.slice A n c, .string ⟨#[32]⟩] w (JoinPost w xs) := by
 obtain ⟨A', c', hv, hc, hcm, hr⟩ := h.form;injection hv with h1 h2 h3;subst h1; subst h2; subst h3;rcases A with _ | ad
 ·have h0 := h.none_nil;subst h0;refine (strings_Join_none none c ⟨#[32]⟩ w).mono ?_;rintro e w' ⟨rfl, rfl⟩;exact ⟨rfl, Touch.refl _ _⟩
 ·obtain ⟨g, rfl⟩ := h.some_form
  have hg : g < w.heap.size := by
   rcases h.2 with ⟨hv, _⟩ | ⟨g', cap, cur, hv, _, hg, _⟩
   ·cases hv
   ·injection hv with h1; injection h1 with h1; injection h1 with h1; subst h1;exact (aG hg).1
  unfold maxLen at hcm;refine (strings_Join g 0 c xs ⟨#[32]⟩ w (fun j x hx => ?_) hg (by omega) hc hlen).mono ?_
  ·obtain ⟨ad', he, _, hat⟩ := hr j x hx;injection he with he;subst he;have h1 := hat 0 _ rfl
   have h2 : ((⟨g, 0, none⟩ : Addr).add (j * Lies.size ByteArray)).add 0 = ⟨g, 0 + j, none⟩ := by
    show ((⟨g, 0, none⟩ : Addr).add (j * 1)).add 0 = _;unfold Addr.add; split <;> split <;> simp_all
   rw [h2] at h1;exact h1
  ·rintro e w' ⟨rfl, hb⟩;exact ⟨by rw [<- joinSp_eq], ⟨hb.os, hb.tape, hb.output, hb.size, fun k hk _ => hb.block k hk⟩⟩
end Go.Proofs.YtalfbhhldfffkaaGreatDoor
namespace Go.Proofs.YtalfbhhldfffkaaGreatDoor
open Go.RowKit
section
variable {X Y Z : Type} {R R' : Rep X} {S : Rep Y} {O : Rep Z} {W w w' : World} {F : Nat -> Prop} {x : X} {y : Y} {z : Z}
theorem Rep.sw (h : (R.and S).on w F (x, y)) : (S.and R).on w F (y, x) := by
 obtain ⟨F1, F2, h1, h2, hd, hF⟩ := h;exact ⟨F2, F1, h2, h1, fun k a b => hd k b a, fun k => (hF k).trans Or.comm⟩
theorem Rep.ex (h : ((R.and S).and O).on w F ((x, y), z)) : ((R.and O).and S).on w F ((x, z), y) := by
 obtain ⟨F1, F2, ⟨G1, G2, g1, g2, gd, gF⟩, h2, hd, hF⟩ := h;refine ⟨fun k => G1 k \/ F2 k, G2, ⟨G1, F2, g1, h2, fun k a b => hd k ((gF k).2 (.inl a)) b, fun _ => Iff.rfl⟩, g2, fun k a b => ?_, fun k => ?_⟩
 ·rcases a with a | a
  ·exact gd k a b
  ·exact hd k ((gF k).2 (.inr b)) a
 ·rw [hF k, gF k];constructor
  ·rintro ((h | h) | h)
   ·exact .inl (.inl h)
   ·exact .inr h
   ·exact .inl (.inr h)
  ·rintro ((h | h) | h)
   ·exact .inl (.inl h)
   ·exact .inr h
   ·exact .inl (.inr h)
theorem Rep.cg {X' : Type} {R' : Rep X'} {x' : X'} (hc : ∀ F, R.on w F x -> R'.on w F x') (h : (R.and S).on w F (x, y)) : (R'.and S).on w F (x', y) := by
 obtain ⟨F1, F2, h1, h2, hd, hF⟩ := h;exact ⟨F1, F2, hc _ h1, h2, hd, hF⟩
theorem Has.map {X' : Type} {R' : Rep X'} {x' : X'} (h : Has R W w x) (hc : ∀ F, R.on w F x -> R'.on w F x') : Has R' W w x' := by
 obtain ⟨⟨F, h1, h2⟩, h3⟩ := h;exact ⟨⟨F, hc F h1, h2⟩, h3⟩
theorem Has.exch' (h : Has ((R.and S).and O) W w ((x, y), z)) : Has ((R.and O).and S) W w ((x, z), y) := h.map fun _ => Rep.ex
theorem Has.right_on (h : Has (R.and S) W w (x, y)) : ∃ F, S.on w F y := by
 obtain ⟨F, hF, _⟩ := h.right.ex;exact ⟨F, hF⟩
end
end Go.Proofs.YtalfbhhldfffkaaGreatDoor
