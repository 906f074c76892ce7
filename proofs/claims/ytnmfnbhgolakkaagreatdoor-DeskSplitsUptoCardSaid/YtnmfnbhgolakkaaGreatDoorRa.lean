import Derived.Test.YtnmfnbhgolakkaaGreatDoorKb
import Derived.Test.YtnmfnbhgolakkaaGreatDoorLa
import Derived.Test.YtnmfnbhgolakkaaGreatDoorFb
import Derived.Test.YtnmfnbhgolakkaaGreatDoorFc
namespace Go.Proofs.YtnmfnbhgolakkaaGreatDoor
open Go GoE Go.ChangeShapes Go.WideShapes Go.ChangeAt Go.RowKit
set_option maxRecDepth 100000
open Go.ChangeMaps (open_string shut_string)
theorem deskSplits_contract (H : Type) (enc : TypeId × Value → H) (W : World) (base : Nat) (args : Array Value) (ds gs : List (DataW H)) (before : List MemPlace)
    (hval : ∀ (j : Nat) t v, Tryz.f6.params[j]? = some t → args[j]? = some v → Value.okWide Tryz.prog W .any base t v)
    (hW : DataW.Whole enc Tryz.prog Tryz.f6.params.toList Rows.deskSplitsSpec.vars false W args.toList ds gs before) (hk : Rows.uptoSmall H (ds ++ gs) = true) (hsh : W.ShapedOpen Tryz.prog) :
    Calls Tryz.prog 6 args W fun e W' => ∃ v, e = .returned v ∧ Rows.deskSplitsSpec.post enc Tryz.prog Tryz.f6 false true false false W args v W' := by
  have hW' := hW
  obtain ⟨p, q, hA0, hV, rfl, hfz, hnd⟩ := hW
  have hA : DataW.TrodAll enc Tryz.prog W 0 (fun _ => true) true Tryz.f6.params.toList args.toList ds p := hA0
  rw [Tryz.params6] at hA hval
  obtain ⟨v0, vs0, d0, ds0, p0, q0, hargs, rfl, rfl, h0, r0⟩ := trodAll_cons hA
  obtain ⟨rfl, rfl, rfl⟩ := trodAll_nil r0
  obtain rfl : args = #[v0] := by cases args; simp_all
  obtain ⟨rfl, rfl⟩ := trodVars_none hV
  obtain ⟨s, rfl, rfl, rfl, hs⟩ := open_string Tryz.underlying9 (hval 0 9 v0 rfl rfl) h0
  clear hA0
  simp only [List.append_nil] at hW'
  have hb : s.data.toList.length ≤ 1048576 := by
    have := of_decide_eq_true hk
    simp only [List.append_nil, Rows.uptoBulkAll, Rows.uptoBulk] at this
    omega
  have hrun := deskSplits_ok s.data.toList (by omega) St.start
  refine (law_of_run XE_ok primE_6 hrun hsh (VL.cons (.str s) (VL.nil _))).mono (fun e' W' he => ?_)
  obtain ⟨rfl, k1, k2, k3, k4⟩ := he
  exact ⟨_, rfl, _, _, _, [], [], [], hW', trodAll_cons_mk (shut_bool Tryz.underlying4 _) trodAll_mk0, trodAll_cons_mk (shut_string Tryz.underlying9 hs) trodAll_mk0, rfl, keptBut_of k2 k3 k4 _, fun h => by cases h⟩

theorem deskSplits_lifted (os : Os) (started : os.Started) (H : Type) (enc : TypeId × Value → H) (F : Stop.Interp) :
    ReturnsInHanded {} Tryz.checked os 6 .any ((Rows.OpenSpec.upto Rows.deskSplitsSpec).preRow enc Tryz.prog Tryz.f6 Rows.deskSplitsUptoRow.domain false Rows.deskSplitsUptoRow.laid) (((Rows.OpenSpec.upto Rows.deskSplitsSpec).at F).post enc Tryz.prog Tryz.f6 false true false false) := by
  obtain ⟨places, hx⟩ := deskSplits_reads os enc
  refine returnsInHanded_of_row (C := Tryz.checked) (s := Rows.OpenSpec.upto Rows.deskSplitsSpec) own started (by kernel_rfl) Tryz.func6
    (witness_row_atRef (enc := enc) (C := Tryz.checked) false (laidWorld os) #[.string ⟨#[]⟩] rfl (by kernel_rfl) (by kernel_rfl) (by kernel_rfl)
      (OpenSpec.preRow_of_cond 8 hx (by kernel_rfl) (fun k hk => by cases hk; kernel_rfl) (by kernel_rfl) (deskSplits_laid os))) ?_
  intro W base args ds gs before hval hW _ hcond _ _ hsh _
  exact deskSplits_contract H enc W base args ds gs before hval hW (hcond _ rfl) hsh
theorem deskSplits_said : Rows.DeskSplitsUptoSaid :=
  OpenClaim.holds_of_cond 6 Tryz.f6 rfl rfl rfl rfl rfl rfl rfl ⟨rfl, rfl, rfl, rfl, rfl⟩ rfl rfl rfl rfl rfl deskSplits_named Tryz.func6 deskSplits_facts
    deskSplits_inst deskSplits_wrap
    (fun os started H enc _ F => by rw [OpenClaim.pre_eq_preRow]; exact deskSplits_lifted os started H enc F)
theorem deskSplits_plain (f : FuncId) (fn : Func) (hf : Tryz.pinned.checked.prog.funcNamed Rows.deskSplitsUptoRow.func = some f) (hfn : Tryz.pinned.checked.prog.funcs[f]? = some fn) :
    true = Tryz.pinned.checked.prog.looks [] ∧ ∀ (j : Nat) t, fn.params[j]? = some t → Tryz.pinned.checked.prog.wantsStandIn t = false := by
  obtain rfl : f = 6 := Option.some.inj (deskSplits_named.symm.trans hf) |>.symm
  obtain rfl : fn = Tryz.f6 := (Option.some.inj (Tryz.func6.symm.trans hfn)).symm
  refine ⟨seat_looks, fun j t ht => ?_⟩
  rw [Tryz.params6] at ht
  obtain rfl : t = 9 := by simpa using Array.mem_of_getElem? ht
  exact seat_standIn9
theorem deskSplits_card : Rows.DeskSplitsUptoCardSaid :=
  Claim7.holds_tied_plain_at .later [] _ _ _ _ deskSplits_said (fun _ h => by cases h) deskSplits_wfText (fun _ h => by cases h) deskSplitsUpto_row_tie rfl ⟨rfl, rfl⟩ seat_main rfl deskSplits_plain deskSplits_goes
end Go.Proofs.YtnmfnbhgolakkaaGreatDoor
