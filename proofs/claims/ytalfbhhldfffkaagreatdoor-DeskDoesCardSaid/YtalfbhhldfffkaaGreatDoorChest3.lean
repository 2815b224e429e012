/- Chest3: the walks of Call and Tear of the reference's Chest. -/
import Derived.Test.YtalfbhhldfffkaaGreatDoorGStore
import Derived.Test.YtalfbhhldfffkaaGreatDoorGCheck
set_option maxHeartbeats 8000000
set_option maxRecDepth 100000
namespace Go.Proofs.YtalfbhhldfffkaaGreatDoor
open Go.RowKit
section
variable {X Y : Type} {R : Rep X} {S : Rep Y} {w w' wr : World} {F : Nat -> Prop} {x x' : X} {y y' : Y}
theorem Moved.beside (h : Moved R w F x wr) (h2 : Has S wr w' y) : Moved (R.and S) w F (x, y) w' := by
 obtain ⟨F', h1, ht, hf⟩ := h;obtain ⟨G, hG, hn⟩ := h2.ex;exact Moved.after ht hf (Rep.beside h1 (h2.ext.mono fun _ h => h.elim) (R.ext h1 h2.ext) hG hn)
theorem Moved.sndM (h : Moved (R.and S) w F (x, y) wr) : ∃ F', S.on wr F' y /\ ∀ y' w', Moved S wr F' y' w' -> Moved (R.and S) w F (x, y') w' := by
 obtain ⟨H, hH, hm⟩ := h.opened;obtain ⟨F1, hF1, hm1⟩ := Rep.snd hH;exact ⟨F1, hF1, fun x' w' m => hm _ _ (hm1 _ _ m)⟩
end
section
variable {α : Type} [Lies α] {w w' wr : World} {F : Nat -> Prop} {g : Nat} {T E : TypeId} {v v' : Value} {cs cs' : Array Value} {l l' : List α}
theorem Moved.turn0 {Y : Type} {O : Rep Y} {y : Y} (h : Moved ((repBlock g T).and O) w F (cs, y) wr) (ht : Touch (fun k => k = g) wr w') (hc : w'.heap[g]? = some (.cells cs' T (0, 0))) : Moved ((repBlock g T).and O) w F (cs', y) w' := by
 obtain ⟨F1, hF, hm⟩ := h.fstM;exact hm _ _ ⟨F1, ⟨hF.1, hc⟩, ht.mono fun k hk => .inl ((hF.1 k).2 hk), Fresh.refl _ _⟩
theorem Moved.cell0 {Y : Type} {O : Rep Y} {y : Y} (h : Moved ((repBlock g T).and O) w F (cs, y) wr) : wr.heap[g]? = some (.cells cs T (0, 0)) := by
 obtain ⟨F1, hF, _⟩ := h.fstM;exact hF.2
end
end Go.Proofs.YtalfbhhldfffkaaGreatDoor
