/- The law ComposeNone returns true for every locale, measure and list (without a source nothing is composed), and its arguments read behind the call as before. Conditions: the listed package-level variables read as listed when the call begins (the card ties them to the program's text). -/
import Derived.Test.YtffdpbhkkflgnaaGreatDoorNoneProof
import Derived.Test.YtffdpbhkkflgnaaGreatDoorNoneFacts
namespace Go.Proofs.YtffdpbhkkflgnaaGreatDoor
open Go.ChangeShapes Go.WideShapes Go.ChangeAt Go.RowKit
set_option maxRecDepth 100000

theorem inst8 : Tryz.f8.isInstance Tryz.prog Rows.composeNoneRow.origin Rows.composeNoneRow.targs := of_decide_eq_true (by kernel_rfl)
theorem wrap8 : Tryz.f8.isWrapper Tryz.prog Rows.composeNoneRow.wrapper Rows.composeNoneRow.mainSum := by
  unfold Func.isWrapper; first | (rw [if_pos (by decide +kernel)]; kernel_rfl) | (rw [if_neg (by decide +kernel)]; exact ⟨rfl, rfl⟩)
theorem named8 : Tryz.prog.funcNamed "vernacular/vernacularlaw28.ComposeNone" = some 8 := by kernel_rfl

theorem composeNone_said : Rows.ComposeNoneSaid :=
  OpenClaim.holds_of_wide 8 Tryz.f8 rfl rfl rfl rfl rfl rfl rfl ⟨rfl, rfl, rfl, rfl, rfl⟩ rfl rfl rfl rfl rfl named8 Tryz.func8 factall inst8 wrap8
    (fun os started H enc _ => lifted os started H enc)

theorem wfText : Rows.composeNoneRow.wfByText (OpenSpec.ofChange Rows.composeNoneSpec) = true := by kernel_rfl
theorem mainIs : Tryz.pinned.checked.prog.mainIs = some (true, "e23c1277746087dd3696476b4d5a78630d3d97798b542056e8f2c144296dc916".toList) := by kernel_rfl
theorem looks8 : true = Tryz.prog.looks [] := by kernel_rfl
theorem goes8 : false = Rows.composeNoneRow.goesBy Tryz.pinned.checked.prog := by kernel_rfl
theorem stands8 : ([9, 30, 51].all fun u => !Tryz.prog.wantsStandIn u) = true := by kernel_rfl

theorem composeNone_holds : Rows.ComposeNoneCardSaid :=
  Claim7.holds_tied_plain_at .later [] [.data, .data, .data, .data, .sentinel, .sentinel, .listed, .data, .pinned] true (true, "e23c1277746087dd3696476b4d5a78630d3d97798b542056e8f2c144296dc916") true composeNone_said (fun _ h => by cases h) wfText (fun _ h => by cases h) composeNone_row_tie rfl ⟨rfl, rfl⟩ mainIs rfl
    (fun f fn hf hfn => by
      obtain rfl : f = 8 := Option.some.inj (named8.symm.trans hf) |>.symm
      obtain rfl : fn = Tryz.f8 := (Option.some.inj (Tryz.func8.symm.trans hfn)).symm
      exact ⟨looks8, fun j t ht => by
        have ht : Tryz.f8.params[j]? = some t := ht
        rw [params8] at ht
        have hm : t ∈ [9, 30, 51] := by simpa using Array.mem_of_getElem? ht
        exact (show Tryz.prog.wantsStandIn t = false by simpa using List.all_eq_true.1 stands8 t hm)⟩)
    goes8
#print axioms composeNone_holds
end Go.Proofs.YtffdpbhkkflgnaaGreatDoor
