/- Facts of the program, and of a run, for the statement that imports this text. Conditions: as each theorem names them. -/
import Derived.Test.YtffdpbhkkflgnaaGreatDoorSeatC
import Derived.Test.YtffdpbhkkflgnaaGreatDoorShH
namespace Go.Proofs.YtffdpbhkkflgnaaGreatDoor
open Go Go.Sh Go.RowKit
set_option maxRecDepth 100000

/-! ## Bytes -/
noncomputable def letterB (n : Nat) : Bool := (Nat.ble 97 n && Nat.ble n 122) || (Nat.ble 65 n && Nat.ble n 90)
noncomputable def digitB (n : Nat) : Bool := Nat.ble 48 n && Nat.ble n 57
noncomputable def startB (n : Nat) : Bool := letterB n || Nat.beq n 95
noncomputable def byteB (n : Nat) : Bool := startB n || digitB n || Nat.beq n 45 || Nat.beq n 46

theorem at_byte {C : SCall} {f : FuncId} {q : Nat → Bool} {σ : SW} (h : (List.range 256).map (fun n => C (.fn f #[.int .u8 (.ofNat n)]) σ) = (List.range 256).map (fun n => some (.bool (q n), σ))) {n : Nat} (hn : n < 256) :
    C (.fn f #[.int .u8 (.ofNat n)]) σ = some (.bool (q n), σ) := List.map_inj_left.1 h n (List.mem_range.2 hn)

theorem nameByte_all (d : Nat) (σ : SW) : (List.range 256).map (fun n => scall E 1000 (d + 3) (.fn 176 #[.int .u8 (.ofNat n)]) σ) = (List.range 256).map (fun n => some (.bool (byteB n), σ)) := by kernel_rfl
theorem nameStart_all (d : Nat) (σ : SW) : (List.range 256).map (fun n => scall E 1000 (d + 2) (.fn 177 #[.int .u8 (.ofNat n)]) σ) = (List.range 256).map (fun n => some (.bool (startB n), σ)) := by kernel_rfl
theorem refStart_all (d : Nat) (σ : SW) : (List.range 256).map (fun n => scall E 1000 (d + 2) (.fn 112 #[.int .u8 (.ofNat n)]) σ) = (List.range 256).map (fun n => some (.bool (startB n), σ)) := by kernel_rfl
theorem refByte_all (d : Nat) (σ : SW) : (List.range 256).map (fun n => scall E 1000 (d + 3) (.fn 113 #[.int .u8 (.ofNat n)]) σ) = (List.range 256).map (fun n => some (.bool (byteB n), σ)) := by kernel_rfl

end Go.Proofs.YtffdpbhkkflgnaaGreatDoor
