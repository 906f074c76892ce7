import Derived.Test.YtnmfnbhgolakkaaGreatDoorFa
namespace Go.Proofs.YtnmfnbhgolakkaaGreatDoor
open Go Go.ChangeShapes Go.WideShapes Go.ChangeAt Go.RowKit
set_option maxRecDepth 100000
theorem deskSplits_f_wf : Rows.deskSplitsUptoRow.wf (OpenSpec.ofChange Rows.deskSplitsSpec) = true := by kernel_rfl
theorem deskSplits_f_params : Tryz.f6.params.all (Tryz.prog.readableRec ·) = true := by kernel_rfl
theorem deskSplits_f_tie : namedTie Tryz.prog Rows.deskSplitsUptoRow.named Rows.deskSplitsSpec.vars = true := by kernel_rfl
theorem deskSplits_f_st : (Rows.deskSplitsUptoRow.stops == []) = true := by kernel_rfl
theorem deskSplits_f_kn : (Rows.deskSplitsUptoRow.knobs == []) = true := by kernel_rfl
theorem deskSplits_f_inPlace : (Rows.deskSplitsUptoRow.inPlace == Tryz.prog.inPlace 6) = true := by kernel_rfl
theorem deskSplits_f_unfollowed : (Rows.deskSplitsUptoRow.unfollowed == Tryz.prog.unfollowed 6) = true := by kernel_rfl
theorem deskSplits_f_recurses : (Rows.deskSplitsUptoRow.recurses == Tryz.prog.recurses 6) = true := by kernel_rfl
theorem deskSplits_f_named : (Rows.deskSplitsUptoRow.named == Tryz.prog.varsNamed 6) = true := by kernel_rfl
theorem deskSplits_f_maps : (Rows.deskSplitsUptoRow.maps == (Tryz.f6.params.toList ++ Rows.deskSplitsSpec.plain.varTypes Tryz.prog).any (Tryz.prog.mapsRec ·)) = true := by kernel_rfl
theorem deskSplits_f_ifaces : (Rows.deskSplitsUptoRow.ifaces == (Tryz.f6.params.toList ++ Rows.deskSplitsSpec.plain.varTypes Tryz.prog).any (Tryz.prog.ifacesRec ·)) = true := by kernel_rfl
theorem deskSplits_f_mapsOut : (Rows.deskSplitsUptoRow.mapsOut == Tryz.prog.mapsAmong Tryz.f6.resultTypes.toList) = true := by kernel_rfl
theorem deskSplits_f_loops : (Rows.deskSplitsUptoRow.loops == (Tryz.f6.params.toList ++ Rows.deskSplitsSpec.plain.varTypes Tryz.prog).any (Tryz.prog.loopsFrom ·)) = true := by kernel_rfl
theorem deskSplits_f_wideKeys : (Rows.deskSplitsUptoRow.wideKeys == (Tryz.f6.params.toList ++ Rows.deskSplitsSpec.plain.varTypes Tryz.prog ++ Tryz.f6.resultTypes.toList).any (Tryz.prog.wideKeysFrom ·)) = true := by kernel_rfl
theorem deskSplits_f_vars : Rows.deskSplitsSpec.vars.all (Tryz.prog.varReadable ·) = true := by kernel_rfl
theorem deskSplits_f_results : Tryz.f6.resultTypes.all (fun t => Tryz.prog.readableRec t && decide (t < Tryz.prog.types.size)) = true := by kernel_rfl
theorem deskSplits_f_ifacesOut : (Rows.deskSplitsUptoRow.ifacesOut == Tryz.f6.resultTypes.toList.any (Tryz.prog.ifacesRec ·)) = true := by kernel_rfl
theorem deskSplits_f_loopsOut : (Rows.deskSplitsUptoRow.loopsOut == Tryz.f6.resultTypes.toList.any (Tryz.prog.loopsFrom ·)) = true := by kernel_rfl
theorem deskSplits_f_plainKeys : (Rows.deskSplitsUptoRow.plainKeys == Tryz.prog.plainKeys) = true := by kernel_rfl
theorem deskSplits_f_short : Rows.deskSplitsUptoRow.shortTexts.isNone = true := by kernel_rfl
theorem deskSplits_f_lifted : (Rows.deskSplitsUptoRow.lifted == Tryz.prog.liftsFinal) = true := by kernel_rfl
theorem deskSplits_f_make : (Tryz.prog.make == some Rows.deskSplitsUptoRow.make) = true := by kernel_rfl
theorem deskSplits_f_kinds : (Rows.deskSplitsUptoRow.kinds == (if Rows.deskSplitsUptoRow.domain.isEmpty then [] else Tryz.f6.params.toList.map fun t => match Tryz.prog.underlying t with | some (.int k) => some k | _ => none)) = true := by kernel_rfl
theorem deskSplits_f_pinned : (Rows.deskSplitsUptoRow.pinned == Rows.deskSplitsUptoRow.pinnedBy) = true := by kernel_rfl
theorem deskSplits_f_veiled : (Rows.deskSplitsUptoRow.veiled == (Tryz.f6.params.toList ++ Rows.deskSplitsSpec.plain.varTypes Tryz.prog ++ Tryz.f6.resultTypes.toList).any (Tryz.prog.veiledRec ·)) = true := by kernel_rfl
theorem deskSplits_f_veiledFits : Rows.deskSplitsUptoRow.veiledFits Tryz.prog Tryz.f6.params.toList (Tryz.f6.params.toList ++ Rows.deskSplitsSpec.plain.varTypes Tryz.prog ++ Tryz.f6.resultTypes.toList) = true := by kernel_rfl
theorem deskSplits_facts : joinedFacts Tryz.prog 6 Tryz.f6 Rows.deskSplitsSpec Rows.deskSplitsUptoRow = true := (and_t (and_t (and_t (and_t (and_t (and_t (and_t (and_t (and_t (and_t (and_t (and_t (and_t (and_t (and_t (and_t (and_t (and_t (and_t (and_t (and_t (and_t (and_t (and_t (and_t (and_t (and_t (and_t (and_t (and_t (and_t deskSplits_f_wf sf_laidOut) sf_mapsRowed) deskSplits_f_params) deskSplits_f_tie) deskSplits_f_st) sf_stops0) deskSplits_f_kn) sf_knobs0) deskSplits_f_inPlace) deskSplits_f_unfollowed) deskSplits_f_recurses) deskSplits_f_named) deskSplits_f_maps) deskSplits_f_ifaces) deskSplits_f_mapsOut) deskSplits_f_loops) deskSplits_f_wideKeys) deskSplits_f_vars) deskSplits_f_results) deskSplits_f_ifacesOut) deskSplits_f_loopsOut) deskSplits_f_plainKeys) deskSplits_f_short) sf_heard) sf_enter) deskSplits_f_lifted) deskSplits_f_make) deskSplits_f_kinds) deskSplits_f_pinned) deskSplits_f_veiled) deskSplits_f_veiledFits)
end Go.Proofs.YtnmfnbhgolakkaaGreatDoor
