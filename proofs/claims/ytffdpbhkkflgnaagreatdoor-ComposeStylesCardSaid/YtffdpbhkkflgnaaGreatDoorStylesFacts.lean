/- Facts of the program, and of a run, for the statement that imports this text. Conditions: as each theorem names them. -/
import Derived.Test.YtffdpbhkkflgnaaGreatDoorRows
import Derived.JoinedOf
import Derived.KernelRfl
namespace Go.Proofs.YtffdpbhkkflgnaaGreatDoor
theorem styfact0 : (Rows.composeStylesRow.wf (OpenSpec.ofChange Rows.composeStylesSpec) : Bool) = true := by kernel_rfl
theorem styfact1 : (laidOutB Tryz.prog : Bool) = true := by kernel_rfl
theorem styfact2 : (mapsRowed Tryz.prog : Bool) = true := by kernel_rfl
theorem styfact3 : (Tryz.f7.params.all (Tryz.prog.readableRec ·) : Bool) = true := by kernel_rfl
theorem styfact4 : (namedTie Tryz.prog Rows.composeStylesRow.named Rows.composeStylesSpec.vars : Bool) = true := by kernel_rfl
theorem styfact5 : ((Rows.composeStylesRow.stops == []) : Bool) = true := by kernel_rfl
theorem styfact6 : ((Tryz.prog.stops == []) : Bool) = true := by kernel_rfl
theorem styfact7 : ((Rows.composeStylesRow.knobs == []) : Bool) = true := by kernel_rfl
theorem styfact8 : ((Tryz.prog.stopKnobs == []) : Bool) = true := by kernel_rfl
theorem styfact9 : ((Rows.composeStylesRow.inPlace == Tryz.prog.inPlace 7) : Bool) = true := by kernel_rfl
theorem styfact10 : ((Rows.composeStylesRow.unfollowed == Tryz.prog.unfollowed 7) : Bool) = true := by kernel_rfl
theorem styfact11 : ((Rows.composeStylesRow.recurses == Tryz.prog.recurses 7) : Bool) = true := by kernel_rfl
theorem styfact12 : ((Rows.composeStylesRow.named == Tryz.prog.varsNamed 7) : Bool) = true := by kernel_rfl
theorem styfact13 : ((Rows.composeStylesRow.maps == (Tryz.f7.params.toList ++ Rows.composeStylesSpec.plain.varTypes Tryz.prog).any (Tryz.prog.mapsRec ·)) : Bool) = true := by kernel_rfl
theorem styfact14 : ((Rows.composeStylesRow.ifaces == (Tryz.f7.params.toList ++ Rows.composeStylesSpec.plain.varTypes Tryz.prog).any (Tryz.prog.ifacesRec ·)) : Bool) = true := by kernel_rfl
theorem styfact15 : ((Rows.composeStylesRow.mapsOut == Tryz.prog.mapsAmong Tryz.f7.resultTypes.toList) : Bool) = true := by kernel_rfl
theorem styfact16 : ((Rows.composeStylesRow.loops == (Tryz.f7.params.toList ++ Rows.composeStylesSpec.plain.varTypes Tryz.prog).any (Tryz.prog.loopsFrom ·)) : Bool) = true := by kernel_rfl
theorem styfact17 : ((Rows.composeStylesRow.wideKeys == (Tryz.f7.params.toList ++ Rows.composeStylesSpec.plain.varTypes Tryz.prog ++ Tryz.f7.resultTypes.toList).any (Tryz.prog.wideKeysFrom ·)) : Bool) = true := by kernel_rfl
theorem styfact18 : (Rows.composeStylesSpec.vars.all (Tryz.prog.varReadable ·) : Bool) = true := by kernel_rfl
theorem styfact19 : (Tryz.f7.resultTypes.all (fun t => Tryz.prog.readableRec t && decide (t < Tryz.prog.types.size)) : Bool) = true := by kernel_rfl
theorem styfact20 : ((Rows.composeStylesRow.ifacesOut == Tryz.f7.resultTypes.toList.any (Tryz.prog.ifacesRec ·)) : Bool) = true := by kernel_rfl
theorem styfact21 : ((Rows.composeStylesRow.loopsOut == Tryz.f7.resultTypes.toList.any (Tryz.prog.loopsFrom ·)) : Bool) = true := by kernel_rfl
theorem styfact22 : ((Rows.composeStylesRow.plainKeys == Tryz.prog.plainKeys) : Bool) = true := by kernel_rfl
theorem styfact23 : (Rows.composeStylesRow.shortTexts.isNone : Bool) = true := by kernel_rfl
theorem styfact24 : (Tryz.prog.stopsHeard : Bool) = true := by kernel_rfl
theorem styfact25 : (Tryz.prog.mayEnter : Bool) = true := by kernel_rfl
theorem styfact26 : ((Rows.composeStylesRow.lifted == Tryz.prog.liftsFinal) : Bool) = true := by kernel_rfl
theorem styfact27 : ((Tryz.prog.make == some Rows.composeStylesRow.make) : Bool) = true := by kernel_rfl
theorem styfact29 : ((Rows.composeStylesRow.pinned == Rows.composeStylesRow.pinnedBy) : Bool) = true := by kernel_rfl
theorem styfact30 : ((Rows.composeStylesRow.veiled == (Tryz.f7.params.toList ++ Rows.composeStylesSpec.plain.varTypes Tryz.prog ++ Tryz.f7.resultTypes.toList).any (Tryz.prog.veiledRec ·)) : Bool) = true := by kernel_rfl
theorem styfact31 : (Rows.composeStylesRow.veiledFits Tryz.prog Tryz.f7.params.toList (Tryz.f7.params.toList ++ Rows.composeStylesSpec.plain.varTypes Tryz.prog ++ Tryz.f7.resultTypes.toList) : Bool) = true := by kernel_rfl
theorem styfactall : joinedFacts Tryz.prog 7 Tryz.f7 Rows.composeStylesSpec Rows.composeStylesRow = true := by
  unfold joinedFacts
  simp only [Bool.and_eq_true]
  exact ⟨⟨⟨⟨⟨⟨⟨⟨⟨⟨⟨⟨⟨⟨⟨⟨⟨⟨⟨⟨⟨⟨⟨⟨⟨⟨⟨⟨⟨⟨⟨styfact0, styfact1⟩, styfact2⟩, styfact3⟩, styfact4⟩, styfact5⟩, styfact6⟩, styfact7⟩, styfact8⟩, styfact9⟩, styfact10⟩, styfact11⟩, styfact12⟩, styfact13⟩, styfact14⟩, styfact15⟩, styfact16⟩, styfact17⟩, styfact18⟩, styfact19⟩, styfact20⟩, styfact21⟩, styfact22⟩, styfact23⟩, styfact24⟩, styfact25⟩, styfact26⟩, styfact27⟩, by kernel_rfl⟩, styfact29⟩, styfact30⟩, styfact31⟩
end Go.Proofs.YtffdpbhkkflgnaaGreatDoor
