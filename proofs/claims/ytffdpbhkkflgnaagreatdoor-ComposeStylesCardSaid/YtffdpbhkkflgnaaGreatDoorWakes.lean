/- The kernel's run of the law package's wakes to true. -/
import Derived.Test.YtffdpbhkkflgnaaGreatDoorSeatC
namespace Go.Proofs.YtffdpbhkkflgnaaGreatDoor
open Go Go.Sh Go.RowKit
set_option maxRecDepth 100000

theorem wakes_ran (e3 e5 ep : TypeId) : ran (objs e3 e5 ep 0) (.bool true) (fcall E 100000 1000 (.fn 11 #[]) (σof (objs e3 e5 ep 0))) = true := by
  kernel_rfl
end Go.Proofs.YtffdpbhkkflgnaaGreatDoor
