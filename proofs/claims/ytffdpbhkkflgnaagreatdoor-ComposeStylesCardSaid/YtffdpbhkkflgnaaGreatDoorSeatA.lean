/- Facts of the program, and of a run, for the statement that imports this text. Conditions: as each theorem names them. -/
import Derived.Test.YtffdpbhkkflgnaaGreatDoorShG
import Derived.KernelRfl
import Derived.Lib.LaidU8
import Derived.Stop.LaidErr
import Derived.MakeChecks
import Derived.Test.YtffdpbhkkflgnaaGreatDoorRows
namespace Go.Proofs.YtffdpbhkkflgnaaGreatDoor
open Go Go.Sh Go.RowKit
set_option maxRecDepth 100000

/-! ## The program's facts -/
noncomputable def ext : List (Nat × EK) := [(182, .indexByte), (184, .same), (185, .noZero 5), (290, .compare)]
noncomputable def E : Env := mkEnv Tryz.prog ext 436 400

theorem ext_ok : ∀ x ∈ ext, EKOK Tryz.prog x.1 x.2 := by
  intro x hx
  simp only [ext, List.mem_cons, List.mem_nil_iff, or_false] at hx
  rcases hx with rfl | rfl | rfl | rfl
  · exact ⟨Tryz.f182, Tryz.func182, by kernel_rfl, by kernel_rfl, by kernel_rfl, show Extern.find Tryz.f182 = some Extern.BytealgIndexByte.indexByte from by kernel_rfl⟩
  · exact ⟨Tryz.f184, Tryz.func184, by kernel_rfl, by kernel_rfl, by kernel_rfl, show Extern.find Tryz.f184 = some Extern.AbiNoEscape.same from by kernel_rfl⟩
  · exact ⟨Tryz.f185, Tryz.func185, by kernel_rfl, by kernel_rfl, by kernel_rfl, Tryz.f185.params, 130, show Extern.find Tryz.f185 = some (Extern.BytealgMakeNoZero.makeNoZero Tryz.f185.params #[130]) from by kernel_rfl, by kernel_rfl⟩
  · exact ⟨Tryz.f290, Tryz.func290, by kernel_rfl, by kernel_rfl, by kernel_rfl, show Extern.find Tryz.f290 = some Extern.BytealgCompare.compare from by kernel_rfl⟩
theorem good : Sh.Good E := good_of (by kernel_rfl) (by kernel_rfl) (by kernel_rfl) (by kernel_rfl) (by kernel_rfl) ext_ok
theorem codes : okCodes 10 (E.P.funcs.toList.take E.nf) = true := by kernel_rfl
end Go.Proofs.YtffdpbhkkflgnaaGreatDoor
