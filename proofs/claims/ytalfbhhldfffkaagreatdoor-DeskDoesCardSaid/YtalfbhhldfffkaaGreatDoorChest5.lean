/- Chest5: the walk of Tear of the reference's Chest. -/
import Derived.Test.YtalfbhhldfffkaaGreatDoorChest4
set_option maxHeartbeats 8000000
set_option maxRecDepth 100000
namespace Go.Proofs.YtalfbhhldfffkaaGreatDoor
open Go.RowKit
theorem tear_snoc {L : List Record} {client no : Int} {c : Call} (h : 0 < (chestCall L client no c).1.2.1) : ∃ r, (chestCall L client no c).2 = L ++ [r] := by
 have hw := chest_way L client no c;generalize chestCall L client no c = r at *;rcases hw with ⟨k, hk, rfl⟩ | ⟨_, _, rfl⟩ | ⟨_, _, x, _, _, _, rfl⟩ | ⟨hc, hk, hl, hs, rfl⟩
 ·exact absurd h (by show ¬ (0 : Int) < 0; omega)
 ·exact absurd h (by show ¬ (0 : Int) < 0; omega)
 ·exact absurd h (by show ¬ (0 : Int) < 0; omega)
 ·exact ⟨_, rfl⟩
end Go.Proofs.YtalfbhhldfffkaaGreatDoor
