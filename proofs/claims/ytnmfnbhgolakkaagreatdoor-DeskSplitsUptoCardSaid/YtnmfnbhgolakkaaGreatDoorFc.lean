import Derived.Test.YtnmfnbhgolakkaaGreatDoorCards
import Derived.Test.YtnmfnbhgolakkaaGreatDoorTie
import Derived.ProofKit
import Derived.LaidMore
import Derived.LaidHandle
import Derived.OpenShut
import Derived.Deep.DeepHandedRow
import Derived.Deep.DeepWitnessRowRef
import Derived.Shelf.Vars
import Derived.Stop.Joined
import Derived.SevenTiedAt
import Derived.KernelRfl
namespace Go.Proofs.YtnmfnbhgolakkaaGreatDoor
open Go Go.ChangeShapes Go.WideShapes Go.ChangeAt Go.RowKit
set_option maxRecDepth 100000
theorem deskSplits_named : Tryz.pinned.checked.prog.funcNamed Rows.deskSplitsUptoRow.func = some 6 := by kernel_rfl
theorem deskSplits_inst : Tryz.f6.isInstance Tryz.pinned.checked.prog Rows.deskSplitsUptoRow.origin Rows.deskSplitsUptoRow.targs := of_decide_eq_true (by kernel_rfl)
theorem deskSplits_wrap : Tryz.f6.isWrapper Tryz.pinned.checked.prog Rows.deskSplitsUptoRow.wrapper Rows.deskSplitsUptoRow.mainSum := by
  unfold Func.isWrapper; first | (rw [if_pos (by decide +kernel)]; kernel_rfl) | (rw [if_neg (by decide +kernel)]; exact ⟨rfl, rfl⟩)
theorem seat_looks : true = Tryz.pinned.checked.prog.looks [] := by kernel_rfl
theorem seat_main : Tryz.pinned.checked.prog.mainIs = some (Rows.deskSplitsUptoCard.stood.harness.1, Rows.deskSplitsUptoCard.stood.harness.2.toList) := by kernel_rfl
theorem deskSplits_wfText : Rows.deskSplitsUptoRow.wfByText (Rows.OpenSpec.upto Rows.deskSplitsSpec) = true := by kernel_rfl
theorem deskSplits_goes : false = Rows.deskSplitsUptoRow.goesBy Tryz.pinned.checked.prog := by kernel_rfl
theorem seat_standIn9 : Tryz.prog.wantsStandIn 9 = false := by kernel_rfl
end Go.Proofs.YtnmfnbhgolakkaaGreatDoor
