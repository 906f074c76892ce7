import Derived.Test.YtnmfnbhgolakkaaGreatDoorCards
import Derived.Test.YtnmfnbhgolakkaaGreatDoorTie
import Derived.ProofKit
import Derived.LaidMore
import Derived.LaidHandle
import Derived.OpenShut
import Derived.Deep.DeepHandedRow
import Derived.Deep.DeepWitnessRowRef
import Derived.Shelf.Vars
import Derived.Stop.Joined
import Derived.SevenTiedAt
import Derived.KernelRfl
namespace Go.Proofs.YtnmfnbhgolakkaaGreatDoor
open Go Go.ChangeShapes Go.WideShapes Go.ChangeAt Go.RowKit
set_option maxRecDepth 100000
theorem and_t {a b : Bool} (ha : a = true) (hb : b = true) : (a && b) = true := by rw [ha, hb]; rfl
theorem sf_laidOut : laidOutB Tryz.prog = true := by kernel_rfl
theorem sf_mapsRowed : mapsRowed Tryz.prog = true := by kernel_rfl
theorem sf_stops0 : (Tryz.prog.stops == []) = true := by kernel_rfl
theorem sf_knobs0 : (Tryz.prog.stopKnobs == []) = true := by kernel_rfl
theorem sf_heard : Tryz.prog.stopsHeard = true := by kernel_rfl
theorem sf_enter : Tryz.prog.mayEnter = true := by kernel_rfl
end Go.Proofs.YtnmfnbhgolakkaaGreatDoor
