/- The law ComposeStyles returns true for every string: compose and its reference judge list, unit and relative styles alike. Conditions: the listed package-level variables read as listed when the call begins (the card ties them to the program's text). -/
import Derived.Test.YtffdpbhkkflgnaaGreatDoorStylesProof
import Derived.Test.YtffdpbhkkflgnaaGreatDoorStylesFacts
namespace Go.Proofs.YtffdpbhkkflgnaaGreatDoor
open Go.ChangeShapes Go.WideShapes Go.ChangeAt Go.RowKit
set_option maxRecDepth 100000

theorem inst7 : Tryz.f7.isInstance Tryz.prog Rows.composeStylesRow.origin Rows.composeStylesRow.targs := of_decide_eq_true (by kernel_rfl)
theorem wrap7 : Tryz.f7.isWrapper Tryz.prog Rows.composeStylesRow.wrapper Rows.composeStylesRow.mainSum := by
  unfold Func.isWrapper; first | (rw [if_pos (by decide +kernel)]; kernel_rfl) | (rw [if_neg (by decide +kernel)]; exact ⟨rfl, rfl⟩)
theorem named7 : Tryz.prog.funcNamed "vernacular/vernacularlaw28.ComposeStyles" = some 7 := by kernel_rfl

theorem composeStyles_said : Rows.ComposeStylesSaid :=
  OpenClaim.holds_of_wide 7 Tryz.f7 rfl rfl rfl rfl rfl rfl rfl ⟨rfl, rfl, rfl, rfl, rfl⟩ rfl rfl rfl rfl rfl named7 Tryz.func7 styfactall inst7 wrap7
    (fun os started H enc _ => styles_lifted os started H enc)

theorem wfText : Rows.composeStylesRow.wfByText (OpenSpec.ofChange Rows.composeStylesSpec) = true := by kernel_rfl
theorem mainIs : Tryz.pinned.checked.prog.mainIs = some (true, "e23c1277746087dd3696476b4d5a78630d3d97798b542056e8f2c144296dc916".toList) := by kernel_rfl
theorem looks7 : true = Tryz.prog.looks [] := by kernel_rfl
theorem goes7 : false = Rows.composeStylesRow.goesBy Tryz.pinned.checked.prog := by kernel_rfl
theorem stands7 : ([9].all fun u => !Tryz.prog.wantsStandIn u) = true := by kernel_rfl

theorem composeStyles_holds : Rows.ComposeStylesCardSaid :=
  Claim7.holds_tied_plain_at .later [] [.data, .data, .data, .data, .sentinel, .sentinel, .listed, .data, .pinned] true (true, "e23c1277746087dd3696476b4d5a78630d3d97798b542056e8f2c144296dc916") true composeStyles_said (fun _ h => by cases h) wfText (fun _ h => by cases h) composeStyles_row_tie rfl ⟨rfl, rfl⟩ mainIs rfl
    (fun f fn hf hfn => by
      obtain rfl : f = 7 := Option.some.inj (named7.symm.trans hf) |>.symm
      obtain rfl : fn = Tryz.f7 := (Option.some.inj (Tryz.func7.symm.trans hfn)).symm
      exact ⟨looks7, fun j t ht => by
        have ht : Tryz.f7.params[j]? = some t := ht
        rw [params7] at ht
        have hm : t ∈ [9] := by simpa using Array.mem_of_getElem? ht
        exact (show Tryz.prog.wantsStandIn t = false by simpa using List.all_eq_true.1 stands7 t hm)⟩)
    goes7
#print axioms composeStyles_holds
end Go.Proofs.YtffdpbhkkflgnaaGreatDoor
