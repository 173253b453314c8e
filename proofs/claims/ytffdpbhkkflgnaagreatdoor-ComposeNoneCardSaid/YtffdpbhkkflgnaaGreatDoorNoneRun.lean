/- The kernel runs ComposeNone in the shadow to true, whatever its arguments hold. Conditions: none. -/
import Derived.Test.YtffdpbhkkflgnaaGreatDoorSeatC
namespace Go.Proofs.YtffdpbhkkflgnaaGreatDoor
open Go Go.Sh Go.RowKit
set_option maxRecDepth 100000

/-- The kernel's run of ComposeNone, whatever the arguments. -/
theorem none_ran (e3 e5 ep : TypeId) (loc : ByteArray) (b0 : Bool) (s1 : ByteArray) (n2 : Int) (s3 s4 s5 : ByteArray) (b6 : Bool) (sa : Option Addr) (sl se : Nat) (st : ByteArray) :
    ran (objs e3 e5 ep 1) (.bool true) (fcall E 100000 1000 (.fn 8 #[.string loc, .agg #[.bool b0, .string s1, .int .i64 n2, .string s3, .string s4, .string s5, .bool b6], .agg #[.slice sa sl se, .string st]]) (σof (objs e3 e5 ep 1))) = true := by
  kernel_rfl
end Go.Proofs.YtffdpbhkkflgnaaGreatDoor
