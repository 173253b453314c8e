/- Facts of the program, and of a run, for the statement that imports this text. Conditions: as each theorem names them. -/
import Derived.Test.YtffdpbhkkflgnaaGreatDoorStylesAll
import Derived.Test.YtffdpbhkkflgnaaGreatDoorTie
import Derived.Test.YtffdpbhkkflgnaaGreatDoorCards
import Derived.ProofKit
import Derived.OpenShut
import Derived.LaidMore
import Derived.Lay
import Derived.Carry
import Derived.SevenTiedAt
import Derived.Stop.Joined
namespace Go.Proofs.YtffdpbhkkflgnaaGreatDoor
open Go.ChangeShapes Go.WideShapes Go.ChangeAt Go.RowKit
open Go.ChangeMaps (open_string)
set_option maxRecDepth 100000

theorem own : ownKnob Tryz.prog.godebug = none := by kernel_rfl
theorem laidOut : laidOutB Tryz.prog = true := by kernel_rfl
theorem t9 : Tryz.prog.underlying 9 = some .string := by kernel_rfl
theorem t4 : Tryz.prog.underlying 4 = some .bool := by kernel_rfl
theorem params7 : Tryz.f7.params = #[9] := by kernel_rfl

theorem styles_calls {w : World} (hL : laidMetH Tryz.prog Rows.composeStylesRow.laid w) (s : ByteArray) : Calls Tryz.prog 7 #[.string s] w fun e w' => e = .returned (.bool true) ∧ Below w.heap.size w w' := by
  obtain ⟨e3, e5, ep, ab, ao, hM⟩ := met_of hL
  obtain ⟨⟨l⟩⟩ := s
  obtain ⟨σ', h1, h2⟩ := styles_run e3 e5 ep l
  refine (CallsIn.calls (Sh.entered (args' := #[strA l]) good (cc_sim e3 e5 ep) (fn := Tryz.f7) (by kernel_rfl) start_gk ?_ (start_rel (xs := []) hM (by simp) (fun x hx => by cases hx)) (.cons (.string _) .nil) h1 h2) room_wide).mono ?_
  · simp only [objs, objs0, List.length_append, List.length_cons, List.length_nil, List.length_replicate, bits24]; omega
  · rintro e w' ⟨⟨u, κ', rfl, hu, _⟩, hb⟩
    cases hu
    exact ⟨rfl, hb⟩

theorem styles_lifted (os : Os) (started : os.Started) (H : Type) (enc : TypeId × Value → H) :
    ReturnsInHanded {} Tryz.checked os 7 .any (fun w args => (Rows.composeStylesSpec.pre enc Tryz.prog Tryz.f7 Rows.composeStylesRow.domain false w args ∧ laidMetH Tryz.prog Rows.composeStylesRow.laid w) ∧ sizedMet enc Tryz.prog Tryz.f7 (OpenSpec.ofChange Rows.composeStylesSpec) false w args)
      (Rows.composeStylesSpec.post enc Tryz.prog Tryz.f7 false true false false) := by
  refine returnsInHanded_of_change_and (C := Tryz.checked) (X := fun w _ => laidMetH Tryz.prog Rows.composeStylesRow.laid w) (fun _ _ _ hh h => h.of_heap hh) own started (by kernel_rfl) Tryz.func7
    (ChangeSpec.witness_shaped (enc := enc) (C := Tryz.checked) (os := os) (X := fun w _ => laidMetH Tryz.prog Rows.composeStylesRow.laid w) false (World.laidAll Tryz.prog os Rows.composeStylesRow.laid)
      #[.string .empty] 7 (World.laidAll_os _ _ _)
      (World.shaped_of_ZipB (by kernel_rfl) (by kernel_rfl)) (by kernel_rfl) (by kernel_rfl) (by kernel_rfl)
      (by rw [MakeChecks.laidMetH_plain _ _ _ (by kernel_rfl)]; exact laidMet_laidAll _ (by kernel_rfl) (by kernel_rfl))) ?_
  intro W base args ds gs before hval0 hW hc _ hL _
  have hval : ∀ (j : Nat) t v, Tryz.f7.params[j]? = some t → args[j]? = some v → Value.okWide Tryz.prog W .any base t v := hval0
  have hW' := hW
  obtain ⟨p, q, hA0, hV, rfl, _, _⟩ := hW
  have hA : DataW.TrodAll enc Tryz.prog W 0 (fun _ => true) true Tryz.f7.params.toList args.toList ds p := hA0
  rw [params7] at hA hval
  obtain ⟨v0, d0, rfl, rfl, h0⟩ := trodAll_one hA
  obtain ⟨rfl, rfl⟩ := trodVars_none hV
  have h0k := h0
  obtain ⟨s, rfl, rfl, rfl, hs⟩ := open_string t9 (hval 0 9 v0 rfl rfl) h0
  simp only [List.append_nil] at hW'
  refine (styles_calls hL s).mono fun e W' ⟨he, hw⟩ => ?_
  subst he
  refine ⟨_, rfl, _, _, _, [], [], [], hW', ?_, ?_, rfl, Below.frame hw _, fun h => by cases h⟩
  · exact trodAll_mk1 (shut_bool t4 true)
  · rw [params7]
    exact trodAll_mk1 (Below.trod laidOut (by kernel_rfl) (of_decide_eq_true (by kernel_rfl)) h0k hw (fun x hx => by cases hx))
end Go.Proofs.YtffdpbhkkflgnaaGreatDoor
