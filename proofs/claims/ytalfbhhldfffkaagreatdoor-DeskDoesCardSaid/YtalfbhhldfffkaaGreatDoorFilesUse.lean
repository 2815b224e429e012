/- FilesUse: a call of files by one who holds them among others; two lists of texts that are the same. -/
import Derived.Test.YtalfbhhldfffkaaGreatDoorGFiles
import Derived.Test.YtalfbhhldfffkaaGreatDoorRead
set_option maxHeartbeats 8000000
set_option maxRecDepth 100000
namespace Go.Proofs.YtalfbhhldfffkaaGreatDoor
open Go.RowKit
theorem files_begin {Y : Type} {S : Rep Y} {W w : World} {y : Y} (h : Has S W w y) : Has (S.and (repHolds w.heap.size 144 217)) W (w.alloc (.cells #[.slice none 0 0] 144)) (y, ([] : List FileD)) :=
 h.beside (G := foot w.heap.size (.slice none 0 0)) ((Touch.refl _ w).alloc _) ⟨_, fun _ => Iff.rfl, Holds.new w _ _⟩ (foot_new w)
end Go.Proofs.YtalfbhhldfffkaaGreatDoor
