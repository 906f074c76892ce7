import Derived.Test.YtnmfnbhgolakkaaGreatDoorKa
import Derived.Test.YtnmfnbhgolakkaaGreatDoorWa
namespace Go.Proofs.YtnmfnbhgolakkaaGreatDoor
open Go GoE Go.ChangeShapes Go.WideShapes Go.ChangeAt Go.RowKit
set_option maxRecDepth 100000
/-- Where a call begins, the evaluator knows all that lies in memory, and keeps it. -/
noncomputable def Gw (W : World) : Gh := Gh.start (fun b o => W.cell? ⟨b, o, none⟩) P.cellsOf

theorem Gw_inv (W : World) : Inv (Gw W) St.start W := Inv.start (fun _ _ _ h => h)

theorem maxLen_int {W : World} (h : W.ShapedOpen Tryz.prog) : ∃ m, W.cell? ⟨0, 0, none⟩ = some (.int .i64 m) :=
  cell_of_shapedOpen_int (zero := #[.int .i64 0]) (t := 3) h (of_decide_eq_true (by kernel_rfl)) (by kernel_rfl) rfl (by kernel_rfl) (by kernel_rfl) Tryz.underlying3

theorem Gw_gl {W : World} (h : W.ShapedOpen Tryz.prog) : GlOK L (Gw W) := by
  refine ⟨fun g a ha => ?_, fun g hg => ?_, fun e ti he => ?_⟩
  · cases ha
    exact .junk _
  · have h0 : g = 0 := by simpa [L, mkLow] using hg
    subst h0
    exact maxLen_int h
  · obtain ⟨i, hi⟩ := L_ok.ty e ti he
    show P.cellsOf e = ti.size
    unfold Program.cellsOf
    rw [hi.info]
    exact hi.size

/-- A run that gives true is what a law's row asks for. -/
theorem law_of_run {X : EProg} (hX : ProgOK P L X) {f : FuncId} (hp : X.prim f = none) {avs : List AV} (h : CallW X f avs St.start (fun v _ => v = .bool true) (fun _ _ => False)) {W : World} (hW : W.ShapedOpen Tryz.prog) {args : Array Value} (hv : VL (Gw W) avs args.toList) :
    Calls P f args W fun e W' => e = .returned (.bool true) ∧ W.heap.size ≤ W'.heap.size ∧ W'.os = W.os ∧ W'.output = W.output ∧ ∀ b, b < W.heap.size → W'.heap[b]? = W.heap[b]? := by
  obtain ⟨n, hn⟩ := h
  cases hc : callN X n f avs St.start with
  | fail _ => rw [hc] at hn; exact hn.elim
  | panic _ _ => rw [hc] at hn; exact hn.elim
  | ret v s' =>
    rw [hc] at hn
    subst hn
    refine (callN_calls hX hc hp (Gw_inv W) (Gw_gl hW) hv).mono (fun e W' he => ?_)
    obtain ⟨v', G', rfl, hpost, hv'⟩ := he
    cases hv'
    obtain ⟨k1, k2, k3, k4, k5⟩ := hpost.kept.start
    exact ⟨rfl, k1, k2, k4, k5⟩

theorem keptBut_of {W W' : World} (h1 : W'.os = W.os) (h2 : W'.output = W.output) (h3 : ∀ b, b < W.heap.size → W'.heap[b]? = W.heap[b]?) (may : MemPlace → Prop) : W.keptBut W' may := by
  refine ⟨h1, h2, fun i hi => ?_⟩
  rw [h3 i hi]
  cases hx : W.heap[i]? with
  | none => rfl
  | some o =>
    cases o <;> first | exact ⟨rfl, rfl, rfl, fun _ _ => rfl⟩ | exact .inr ⟨rfl, rfl⟩ | rfl

end Go.Proofs.YtnmfnbhgolakkaaGreatDoor
