import Derived.Test.YtnmfnbhgolakkaaGreatDoorCards
import Derived.Test.YtnmfnbhgolakkaaGreatDoorTie
import Derived.ProofKit
import Derived.LaidMore
import Derived.LaidHandle
import Derived.OpenShut
import Derived.Deep.DeepHandedRow
import Derived.Deep.DeepWitnessRowRef
import Derived.Shelf.Vars
import Derived.Stop.Joined
import Derived.SevenTiedAt
import Derived.KernelRfl
/- From a run of the evaluator to a row of this seat: what lies in the world when the call begins, the witness' world. No condition. -/
namespace Go.Proofs.YtnmfnbhgolakkaaGreatDoor
open Go Go.ChangeShapes Go.WideShapes Go.ChangeAt Go.RowKit
set_option maxRecDepth 100000

theorem own : ownKnob Tryz.prog.godebug = none := by kernel_rfl

def litV : DataW Unit → Value
  | .lit (.int k n) => .int k n
  | _ => .nilIface
def row1 : DataW Unit → List Value
  | .agg l => l.map litV
  | _ => []
def row2 : DataW Unit → List Value
  | .agg l => l.flatMap row1
  | .slice l _ => l.flatMap row1
  | _ => []
def whiteRow : List Value := match Rows.laid_unicode_White_Space (H := Unit) with
  | .ptr (.agg (d :: _)) => row2 d
  | _ => []

def laidObj (i : Nat) (o : Obj) : Obj :=
  match o with
  | .cells c t f => .cells (if i = 1 then (row1 Go.Pinned.utf8First).toArray else if i = 2 then (row2 Rows.laid_unicode_utf8_acceptRanges).toArray else if i = 3 then (row1 Rows.laid_strings_asciiSpace).toArray else
      if i = 4 then #[.pointer (some ⟨11, 0, none⟩)] else c) t f
  | o => o

/-- A world for the witness: the settled one, its listed variables laid. -/
noncomputable def laidWorld (os : Os) : World :=
  let w0 := World.holding Tryz.prog os ⟨#[.cells #[.slice (some ⟨12, 0, none⟩) 7 7, .slice none 0 0, .int .i64 2] 425, .cells whiteRow.toArray 428], #[], []⟩
  { w0 with heap := (w0.heap.toList.zipIdx.map fun x => laidObj x.2 x.1).toArray }


end Go.Proofs.YtnmfnbhgolakkaaGreatDoor
