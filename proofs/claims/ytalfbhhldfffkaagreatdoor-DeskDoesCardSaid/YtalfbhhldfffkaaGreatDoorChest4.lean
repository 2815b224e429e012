/- Chest4: the walk of Call of the reference's Chest where something may change. -/
import Derived.Test.YtalfbhhldfffkaaGreatDoorChest3
set_option maxHeartbeats 8000000
set_option maxRecDepth 100000
namespace Go.Proofs.YtalfbhhldfffkaaGreatDoor
open Go.RowKit

end Go.Proofs.YtalfbhhldfffkaaGreatDoor
