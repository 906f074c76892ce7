import Derived.Test.YtnmfnbhgolakkaaGreatDoorEb
import Derived.Recover
import Derived.Scope
/- One operation of the model does what the evaluator says: all of them, from the lowering's own tests. No condition. -/
namespace GoE
open Go

section
variable {P : Program} {L : Low} {G : Gh} {s : St} {w : World} {tmps : List AV} {a : Act}

theorem desc_of (hL : LowOK P L) {t : Nat} {d : TypeDesc} (h : L.desc t = some d) : P.underlying t = some d := by
  obtain ⟨ti, h1, rfl⟩ := Option.map_eq_some_iff.1 h
  obtain ⟨i, hi⟩ := hL.ty t ti h1
  exact hi.desc

theorem size_of (hL : LowOK P L) {t n : Nat} (h : L.size t = some n) : ∃ ti i, L.ty t = some ti ∧ TyOK P ti t i ∧ ti.size = n := by
  obtain ⟨ti, h1, rfl⟩ := Option.map_eq_some_iff.1 h
  obtain ⟨i, hi⟩ := hL.ty t ti h1
  exact ⟨ti, i, h1, hi, rfl⟩

theorem ty_desc {t : Nat} {ti : TI} (h : L.ty t = some ti) : L.desc t = some ti.desc := by simp [Low.desc, h]

theorem nilDeref_halt {α : Type} (w : World) : ∃ m, (runtimePanic .nilDeref : Sem α).run P w = .halt (.panic (.iface P.rt.errorString (strVal m))) w := ⟨_, by simp [runtimePanic]; rfl⟩

theorem op_cast (hi : Inv G s w) (hL : LowOK P L) {src dst t : TypeId} (hd : (P.underlying src = some (.pointer t) ∧ P.underlying dst = some .unsafePointer) ∨ (P.underlying src = some .unsafePointer ∧ P.underlying dst = some (.pointer t)))
    {x : EArg} {v : Value} (hv : V G (x.ev tmps) v) {k : EK} (h : castK L t x = some k) : OpOK P G s w (opV (rtOf P) tmps s k) ((do pure (.value (← convert src dst v)) : Sem Next).run P w) := by
  unfold castK at h
  split at h <;> try (cases h; done)
  rename_i ti hty
  obtain ⟨i, hti⟩ := hL.ty t ti hty
  split at h <;> try (cases h; done)
  rename_i hs0
  split at h <;> try (cases h; done)
  rename_i hna
  cases h
  exact cast_ok hi hL hd hti hs0 hna hv

theorem op_convert (hi : Inv G s w) (hL : LowOK P L) (hg : GlOK L G) {src dst : TypeId} {x : EArg} {v : Value} (hv : V G (x.ev tmps) v) {k : EK} (h : lowConvert L src dst x = some k) :
    OpOK P G s w (opV (rtOf P) tmps s k) ((do pure (.value (← convert src dst v)) : Sem Next).run P w) := by
  unfold lowConvert at h
  split at h
  · rename_i h1 h2; cases h; exact (toInt_ok (desc_of hL h1) (desc_of hL h2) hv).op hi
  · rename_i h1 h2; cases h; exact (runeStr_ok (desc_of hL h1) (desc_of hL h2) hv).op hi
  · rename_i h1 h2; cases h; exact (strStr_ok (desc_of hL h1) (desc_of hL h2) hv).op hi
  · rename_i h1 h2
    split at h
    · rename_i h3
      split at h
      · rename_i h4
        cases h
        obtain ⟨ti, h5, h6⟩ := Option.map_eq_some_iff.1 h4
        exact strBytes_ok hi (by rw [hg.2.2 _ ti h5]; exact h6) (desc_of hL h1) (desc_of hL h2) (desc_of hL h3) hv
      · cases h
    · cases h
  · rename_i h1 h2
    split at h
    · rename_i h3; cases h; exact bytesStr_ok hi (desc_of hL h1) (desc_of hL h2) (desc_of hL h3) hv
    · cases h
  · rename_i h1 h2
    exact op_cast hi hL (.inl ⟨desc_of hL h1, desc_of hL h2⟩) hv h
  · rename_i h1 h2
    exact op_cast hi hL (.inr ⟨desc_of hL h1, desc_of hL h2⟩) hv h
  · cases h

theorem op_eq (hi : Inv G s w) (hL : LowOK P L) {t : TypeId} {op : BinOp} {x y : Operand} {ax ay : EArg} {u v : Value} (hx : V G (ax.ev tmps) u) (hy : V G (ay.ev tmps) v) {tag : EqT} (ht : TagOK P L t tag) (neg : Bool)
    (hop : op = if neg then .neq else .eql) :
    OpOK P G s w (opV (rtOf P) tmps s (.eq neg tag ax ay)) ((do pure (.value (← (do eqGuard op t x y u v; binOp op t u v : Sem Value))) : Sem Next).run P w) := by
  subst hop
  simp only [opV]
  cases he : eqT tag (ax.ev tmps) (ay.ev tmps) with
  | none => trivial
  | some b => exact (eq_ok hL hx hy ht he neg).op hi

theorem op_bin (hi : Inv G s w) (hL : LowOK P L) {t : TypeId} {ti : TI} (hty : L.ty t = some ti) {op : BinOp} {x y : Operand} {ax ay : EArg} {u v : Value} (hx : V G (ax.ev tmps) u) (hy : V G (ay.ev tmps) v) {k : EK}
    (h : lowBin L op ti ax ay = some k) :
    OpOK P G s w (opV (rtOf P) tmps s k) ((do pure (.value (← (do eqGuard op t x y u v; binOp op t u v : Sem Value))) : Sem Next).run P w) := by
  have hd := desc_of hL (ty_desc hty)
  obtain ⟨i, hti⟩ := hL.ty t ti hty
  have eqc : ∀ {tag : EqT}, eqK op ax ay tag = some k → TagOK P L t tag →
      OpOK P G s w (opV (rtOf P) tmps s k) ((do pure (.value (← (do eqGuard op t x y u v; binOp op t u v : Sem Value))) : Sem Next).run P w) := by
    intro tag h2 ht
    unfold eqK at h2
    split at h2
    · cases h2; exact op_eq hi hL hx hy ht false rfl
    · cases h2; exact op_eq hi hL hx hy ht true rfl
    · cases h2
  unfold lowBin at h
  split at h
  · cases h; exact (bin_ok hi hx hy).op hi
  · cases h; exact (bin_ok hi hx hy).op hi
  · rename_i he; exact eqc h (by rw [he] at hd; exact hd)
  · rename_i e he
    split at h
    · rename_i n hn
      split at h
      · cases h
      · rename_i h0
        obtain ⟨te, ie, g1, g2, rfl⟩ := size_of hL hn
        exact eqc h ⟨e, ie, by rw [← he]; exact hd, g2.info, by rw [g2.size]; exact h0⟩
    · cases h
  · rename_i e he; exact eqc h ⟨e, by rw [← he]; exact hd⟩
  · rename_i e1 e2 he; exact eqc h ⟨e1, e2, by rw [← he]; exact hd⟩
  · rename_i e1 e2 e3 he; exact eqc h ⟨e1, e2, e3, by rw [← he]; exact hd⟩
  · rename_i m he; exact eqc h ⟨m, by rw [← he]; exact hd⟩
  · rename_i fs he
    split at h
    · rename_i hp
      split at h
      · rename_i ks hks
        have := hti.plain hp
        exact eqc h ⟨fs, by rw [← he]; exact hd, hks, this.1, this.2⟩
      · cases h
    · cases h
  · cases h

theorem op_builtin (hi : Inv G s w) (hL : LowOK P L) (hg : GlOK L G) {b : Builtin} {ts : Array TypeId} {ty : TypeId} {consts : Array Bool} {es : List EArg} {args : Array Value} (hv : VL G (es.map (EArg.ev tmps)) args.toList) {k : EK}
    (h : lowBuiltin L b ts es = some k) : OpOK P G s w (opV (rtOf P) tmps s k) ((builtin b ts ty consts args).run P w) := by
  unfold lowBuiltin at h
  split at h
  · cases h
  · rename_i t0 h0
    have one : ∀ {x : EArg}, es = [x] → ∃ v, args = #[v] ∧ V G (x.ev tmps) v := fun e => by
      subst e
      obtain ⟨v, ws, h1, h2, h3⟩ := hv.cons_inv
      have := h3.nil_inv
      subst this
      exact ⟨v, Array.ext' (by simpa using h1), h2⟩
    have two : ∀ {x y : EArg}, es = [x, y] → ∃ u v, args = #[u, v] ∧ V G (x.ev tmps) u ∧ V G (y.ev tmps) v := fun e => by
      subst e
      obtain ⟨v, ws, h1, h2, h3⟩ := hv.cons_inv
      obtain ⟨v', ws', h1', h2', h3'⟩ := h3.cons_inv
      have := h3'.nil_inv
      subst this
      subst h1'
      exact ⟨v, v', Array.ext' (by simpa using h1), h2, h2'⟩
    simp only at h
    split at h
    · -- len
      rename_i x
      obtain ⟨v, rfl, hx⟩ := one rfl
      split at h <;> try (cases h; done)
      · rename_i hd; cases h; exact (lenS_ok h0 hx rfl (desc_of hL hd)).op hi
      · rename_i e hd; cases h; exact (len_ok h0 hx rfl (desc_of hL hd)).op hi
      · rename_i kt e hd; cases h; exact lenM_ok hi h0 hx rfl (desc_of hL hd)
      · rename_i n e hd; cases h; exact (lenK_ok h0 rfl (desc_of hL hd)).op hi
    · -- cap
      rename_i x
      obtain ⟨v, rfl, hx⟩ := one rfl
      split at h <;> try (cases h; done)
      · rename_i e hd; cases h; exact (cap_ok h0 hx rfl (desc_of hL hd)).op hi
      · rename_i n e hd; cases h; exact (capK_ok h0 rfl (desc_of hL hd)).op hi
    · -- append
      rename_i x y
      obtain ⟨u, v, rfl, hx, hy⟩ := two rfl
      split at h <;> try (cases h; done)
      rename_i e hd
      split at h <;> try (cases h; done)
      rename_i ei t1 hei h1
      obtain ⟨ie, hie⟩ := hL.ty e ei hei
      split at h <;> try (cases h; done)
      rename_i hz
      have hz1 : ei.size ≠ 0 := fun e => hz (.inl e)
      have hz2 : ei.zero.isSome = true := by
        cases hzz : ei.zero with
        | none => exact absurd (Or.inr (by simp [hzz])) hz
        | some _ => rfl
      split at h <;> try (cases h; done)
      · rename_i hd1
        split at h <;> try (cases h; done)
        rename_i hc
        cases h
        exact appendStr_ok hi h0 h1 (desc_of hL hd) (desc_of hL hd1) hie hz2 hc.1 hc.2.1 hx hy rfl rfl (hg.2.2 _ ei hei)
      · rename_i e1 hd1
        cases h
        exact append_ok hi h0 h1 (desc_of hL hd) (desc_of hL hd1) hie hz2 (by omega) hx hy rfl rfl _ (hg.2.2 _ ei hei)
    · -- copy
      rename_i x y
      obtain ⟨u, v, rfl, hx, hy⟩ := two rfl
      split at h <;> try (cases h; done)
      rename_i e hd
      split at h <;> try (cases h; done)
      rename_i ei t1 hei h1
      obtain ⟨ie, hie⟩ := hL.ty e ei hei
      split at h <;> try (cases h; done)
      rename_i hz
      split at h <;> try (cases h; done)
      · split at h <;> try (cases h; done)
        rename_i hc
        cases h
        exact copyStr_ok hi h0 (desc_of hL hd) hie hc.1 hx hy rfl rfl
      · cases h
        exact copy_ok hi h0 (desc_of hL hd) hie (by omega) hx hy rfl rfl
    · -- max
      rename_i x xs
      cases h
      obtain ⟨v, ws, h1, h2, h3⟩ := hv.cons_inv
      exact (maxmin_ok (ts := ts) (ty := ty) hi true h2 h3 h1).op hi
    · -- min
      rename_i x xs
      cases h
      obtain ⟨v, ws, h1, h2, h3⟩ := hv.cons_inv
      exact (maxmin_ok (ts := ts) (ty := ty) hi false h2 h3 h1).op hi
    · -- delete
      rename_i x y
      obtain ⟨u, v, rfl, hx, hy⟩ := two rfl
      split at h <;> try (cases h; done)
      rename_i kt e hd
      split at h <;> try (cases h; done)
      · rename_i ik hk; cases h; exact delete_ok hi h0 (desc_of hL hd) (desc_of hL hk) (.inl ⟨rfl, _, rfl⟩) hx hy rfl rfl
      · rename_i hk; cases h; exact delete_ok hi h0 (desc_of hL hd) (desc_of hL hk) (.inr ⟨rfl, rfl⟩) hx hy rfl rfl
    · -- clear
      rename_i x
      obtain ⟨v, rfl, hx⟩ := one rfl
      split at h <;> try (cases h; done)
      rename_i e hd
      split at h <;> try (cases h; done)
      rename_i ei z hei hz
      obtain ⟨ie, hie⟩ := hL.ty e ei hei
      split at h <;> try (cases h; done)
      rename_i hs0
      cases h
      exact clear_ok hi h0 (desc_of hL hd) hei hie hz hs0 hx rfl
    · -- unsafe.SliceData
      rename_i x
      obtain ⟨v, rfl, hx⟩ := one rfl
      split at h <;> try (cases h; done)
      split at h <;> try (cases h; done)
      cases h
      exact usd_ok hi hx
    · -- unsafe.String
      rename_i x y
      obtain ⟨u, v, rfl, hx, hy⟩ := two rfl
      split at h <;> try (cases h; done)
      rename_i e hd
      split at h <;> try (cases h; done)
      split at h <;> try (cases h; done)
      rename_i hs
      cases h
      obtain ⟨ei, ie, g1, g2, g3⟩ := size_of hL hs
      exact us_ok hi h0 (desc_of hL hd) g2 g3 hx hy
    · cases h
end
end GoE

/- One operation of the model does what the evaluator says: the whole list. No condition. -/
namespace GoE
open Go

section
variable {P : Program} {L : Low} {G : Gh} {s : St} {w : World} {tmps : List AV} {a : Act}

theorem op_call (hi : Inv G s w) (hL : LowOK P L) (hg : GlOK L G) (hT : Tm G tmps a.tmps) {c : Call} {ty : TypeId} {k : EK} (h : lowCall L c = some k) :
    OpOK P G s w (opV (rtOf P) tmps s k) ((do let d ← resolve a.eval c ty; invoke d.target d.args : Sem Next).run P w) := by
  unfold lowCall at h
  split at h
  · cases h
  · rename_i es hes
    have hargs : VL G (es.map (EArg.ev tmps)) (c.args.map a.eval).toList := by
      have := lowArgs_sound hg hT hes
      simpa using this
    split at h
    · rename_i hc
      cases h
      simp [resolve, hc, invoke, builtin, opV, OpOK]
    · rename_i b hnr hc
      have := fun consts => op_builtin (ty := ty) (consts := consts) hi hL hg hargs h
      simp only [resolve, hc, Sem.run_bind, Sem.run_pure, Result.andThen_ok, invoke]
      exact this _
    · rename_i f hc
      cases h
      refine ⟨#[] ++ c.args.map a.eval, ?_, by simpa using hargs⟩
      simp [resolve, hc, Act.eval, Deferred.ofValue, invoke]
    · rename_i f hnf hc
      simp only [Option.map_eq_some_iff] at h
      obtain ⟨ef, hef, rfl⟩ := h
      have hf := lowArg_sound hg hT hef
      simp only [opV]
      generalize hav : ef.ev tmps = av at hf
      generalize hfv : a.eval f = fv at hf
      cases hf <;> try trivial
      · rename_i fn first cap f' c' h1 h2 h3 h4
        cases fn <;> try trivial
        rename_i g
        have vl1 : VL G first f'.toList := ⟨by simpa using h1, fun i x v hx hv => h3 i x v hx (by simpa using hv)⟩
        have vl2 : VL G cap c'.toList := ⟨by simpa using h2, fun i x v hx hv => h4 i x v hx (by simpa using hv)⟩
        refine ⟨f' ++ c.args.map a.eval ++ c', ?_, ?_⟩
        · simp [resolve, hc, hfv, Deferred.ofValue, invoke]
        · simp only [Array.toList_append]
          exact (vl1.append hargs).append vl2
      · obtain ⟨m, hm⟩ := nilDeref_halt (P := P) (α := Next) w
        refine error_ok hi m ?_
        simp only [resolve, hc, hfv, Deferred.ofValue, Sem.run_bind, Sem.run_pure, Result.andThen_ok, invoke]
        exact hm
    · cases h

theorem hs_of {t : Nat} {ti : TI} (h : L.ty t = some ti) : L.size t = some ti.size := by simp [Low.size, h]

theorem opV_ok (hi : Inv G s w) (hL : LowOK P L) (hg : GlOK L G) (hT : Tm G tmps a.tmps) {o : Oper} {k : EK} (h : lowOp L o.op = some k) :
    OpOK P G s w (opV (rtOf P) tmps s k) ((execOp a.eval o).run P w) := by
  have arg : ∀ {x : Operand} {e : EArg}, lowArg L x = some e → V G (e.ev tmps) (a.eval x) := fun e => lowArg_sound hg hT e
  have opt : ∀ {x : Option Operand} {e : Option EArg}, lowOpt L x = some e → OptV G tmps e (x.map a.eval) := fun e => lowOpt_sound hg hT e
  unfold execOp
  cases ho : o.op <;> rw [ho] at h <;> simp only [lowOp] at h <;> try (cases h; done)
  case move x =>
    obtain ⟨e, h1, rfl⟩ := Option.map_eq_some_iff.1 h
    exact ValOK.same hi (arg h1) (by simp)
  case assign x =>
    obtain ⟨e, h1, rfl⟩ := Option.map_eq_some_iff.1 h
    exact ValOK.same hi (arg h1) (by simp)
  case pick c x y =>
    split at h <;> try (cases h; done)
    rename_i ec ex ey h1 h2 h3
    cases h
    have hc := arg h1
    simp only [opV]
    generalize hcv : a.eval c = cv at hc
    generalize ec.ev tmps = ac at hc
    cases hc <;> try trivial
    rename_i b
    have : V G (if b then ex.ev tmps else ey.ev tmps) (if b then a.eval x else a.eval y) := by cases b; exact arg h3; exact arg h2
    refine ValOK.same hi this ?_
    simp [asBool]
  case alloc e =>
    obtain ⟨z, h1, rfl⟩ := Option.map_eq_some_iff.1 h
    exact alloc_ok hL h1
  case box e x =>
    obtain ⟨z, h1, rfl⟩ := Option.map_eq_some_iff.1 h
    exact box_ok (arg h1)
  case build t parts =>
    split at h <;> try (cases h; done)
    · rename_i fs z hd hz
      split at h <;> try (cases h; done)
      rename_i hall
      obtain ⟨ps, h1, rfl⟩ := Option.map_eq_some_iff.1 h
      obtain ⟨ti, hty, hde⟩ := Option.map_eq_some_iff.1 hd
      obtain ⟨i, hti⟩ := hL.ty t ti hty
      exact (build_ok hL hg hT hty hti (.inl ⟨fs, hde, rfl, fun f hf => List.all_eq_true.1 hall f hf⟩) hz h1).op hi
    · rename_i n e z hd hz
      split at h <;> try (cases h; done)
      rename_i m hm
      obtain ⟨ps, h1, rfl⟩ := Option.map_eq_some_iff.1 h
      obtain ⟨ti, hty, hde⟩ := Option.map_eq_some_iff.1 hd
      obtain ⟨i, hti⟩ := hL.ty t ti hty
      obtain ⟨te, ie, g1, g2, rfl⟩ := size_of hL hm
      exact (build_ok hL hg hT hty hti (.inr ⟨n, e, te, hde, g1, rfl⟩) hz h1).op hi
  case buildSlice t len parts =>
    split at h <;> try (cases h; done)
    rename_i e hd
    split at h <;> try (cases h; done)
    rename_i ei z hei hz
    obtain ⟨ie, hie⟩ := hL.ty e ei hei
    split at h <;> try (cases h; done)
    rename_i hcond
    have c1 : ei.size ≠ 0 := fun e => hcond (.inl e)
    have c2 : z.length = ei.size := Decidable.byContradiction fun e => hcond (.inr (.inl e))
    have c3 : len * ei.size ≤ 2 ^ 20 := Nat.le_of_not_lt fun e => hcond (.inr (.inr e))
    split at h <;> try (cases h; done)
    rename_i ps hps
    split at h
    · cases h
      exact bsliceM_ok hL hg hT hei hz c2 c1 hps c3 (desc_of hL hd)
    · cases h
      exact bsliceV_ok hi hL hg hT hei hz c2 c1 hps c3 (desc_of hL hd) hie.one
  case load t x =>
    split at h <;> try (cases h; done)
    rename_i ti ex hty h1
    cases h
    obtain ⟨i, hti⟩ := hL.ty t ti hty
    simp only [opV]
    cases hl : (loadL s (ex.ev tmps) ti.size).bind (shapeV ti.agg) with
    | none => trivial
    | some v =>
      obtain ⟨v', k1, k2⟩ := load_ok hi hti (arg h1) hl
      exact ValOK.same hi k2 (exec_value _ k1)
  case store t x y =>
    split at h <;> try (cases h; done)
    rename_i ti ex ey hty h1 h2
    cases h
    obtain ⟨i, hti⟩ := hL.ty t ti hty
    have hx := arg h1
    have hy := arg h2
    simp only [opV]
    split <;> try trivial
    rename_i r off hav
    split <;> try trivial
    rename_i e c hr
    split <;> try trivial
    rename_i hc
    obtain ⟨w', k1, k2⟩ := store_ok (P := P) hi hti hx hy hav hr hc.1 hc.2.1 hc.2.2
    exact ⟨Go.undef, w', G, .inr ⟨by simp [k1], rfl⟩, k2, .undef⟩
  case nilCheck x =>
    obtain ⟨e, h1, rfl⟩ := Option.map_eq_some_iff.1 h
    have := nilc_ok (P := P) hi ho (arg h1)
    unfold execOp at this
    rw [ho] at this
    exact this
  case binOp op t x y ex =>
    split at h <;> try (cases h; done)
    rename_i ti ex ey hty h1 h2
    exact op_bin hi hL hty (arg h1) (arg h2) h
  case unOp op t x =>
    obtain ⟨e, h1, rfl⟩ := Option.map_eq_some_iff.1 h
    exact (un_ok (arg h1)).op hi
  case convert src dst x =>
    split at h <;> try (cases h; done)
    rename_i ex h1
    exact op_convert hi hL hg (arg h1) h
  case makeInterface t x =>
    split at h <;> try (cases h; done)
    rename_i d ex hni hd h1
    cases h
    exact (mkI_ok (desc_of hL hd) (fun m hm => by subst hm; exact hni m rfl) (arg h1)).op hi
  case makeFunc fn first cap =>
    split at h <;> try (cases h; done)
    rename_i ef ec h1 h2
    cases h
    exact (mkF_ok (by simpa using lowArgs_sound hg hT h1) (by simpa using lowArgs_sound hg hT h2)).op hi
  case makeMap t r =>
    cases r with
    | some _ => simp at h
    | none =>
      simp at h
      subst h
      exact mkM_ok
  case makeSlice t l c =>
    split at h <;> try (cases h; done)
    rename_i e hd
    split at h <;> try (cases h; done)
    rename_i ei z el ec hei hz h1 h2
    obtain ⟨ie, hie⟩ := hL.ty e ei hei
    split at h <;> try (cases h; done)
    rename_i hcond
    cases h
    exact mkS_ok hi hei hie (desc_of hL hd) hz (Decidable.byContradiction fun e => hcond (.inr e)) (fun e => hcond (.inl e)) (arg h1) (arg h2) _ (hg.2.2 _ ei hei)
  case slice t x lo hi' mx =>
    split at h <;> try (cases h; done)
    rename_i ex elo ehi emx h1 h2 h3 h4
    split at h <;> try (cases h; done)
    · rename_i hd
      split at h <;> try (cases h; done)
      rename_i hm
      cases h
      have hmx : mx = none := by
        cases mx with
        | none => rfl
        | some m =>
          simp only [lowOpt, Option.map_eq_some_iff] at h4
          obtain ⟨_, _, rfl⟩ := h4
          simp at hm
      subst hmx
      exact (slS_ok hi (desc_of hL hd) (arg h1) (opt h2) (opt h3)).op hi
    · rename_i e hd
      split at h <;> try (cases h; done)
      rename_i n hn
      split at h <;> try (cases h; done)
      rename_i hcond
      cases h
      obtain ⟨te, ie, g1, g2, rfl⟩ := size_of hL hn
      refine (slV_ok hi (desc_of hL hd) g2 (arg h1) (opt h2) (opt h3) (opt h4) (fun hm => ?_)).op hi
      cases ehi with
      | some _ => rfl
      | none => exact absurd (Or.inr ⟨hm, rfl⟩) hcond
    · rename_i n e hd
      split at h <;> try (cases h; done)
      rename_i m hm
      split at h <;> try (cases h; done)
      rename_i hcond
      cases h
      obtain ⟨te, ie, g1, g2, rfl⟩ := size_of hL hm
      have hmx : mx = none := by
        cases mx with
        | none => rfl
        | some m =>
          simp only [lowOpt, Option.map_eq_some_iff] at h4
          obtain ⟨_, _, rfl⟩ := h4
          exact absurd (Or.inr rfl) hcond
      subst hmx
      exact (slA_ok hi (desc_of hL hd) g2 (arg h1) (opt h2) (opt h3)).op hi
  case fieldAddr t x f =>
    split at h <;> try (cases h; done)
    rename_i fs ex hd h1
    split at h <;> try (cases h; done)
    rename_i fd hf
    split at h <;> try (cases h; done)
    rename_i n hn
    split at h <;> try (cases h; done)
    rename_i h0
    cases h
    obtain ⟨te, ie, g1, g2, rfl⟩ := size_of hL hn
    exact (addOff_ok (desc_of hL hd) hf g2 h0 (arg h1)).op hi
  case field t x f =>
    split at h <;> try (cases h; done)
    rename_i fs ex hd h1
    split at h <;> try (cases h; done)
    rename_i fd hf
    obtain ⟨ti, hty, rfl⟩ := Option.map_eq_some_iff.1 h
    obtain ⟨i, hti⟩ := hL.ty _ ti hty
    exact (field_ok (desc_of hL hd) hf hti (arg h1)).op hi
  case indexAddr t x y =>
    split at h <;> try (cases h; done)
    · rename_i ex ey e h1 h2 hd
      split at h <;> try (cases h; done)
      rename_i n hn
      split at h <;> try (cases h; done)
      cases h
      obtain ⟨te, ie, g1, g2, rfl⟩ := size_of hL hn
      exact (idxS_ok hi (desc_of hL hd) g2 (arg h1) (arg h2)).op hi
    · rename_i ex ey n e h1 h2 hd
      split at h <;> try (cases h; done)
      rename_i m hm
      split at h <;> try (cases h; done)
      cases h
      obtain ⟨te, ie, g1, g2, rfl⟩ := size_of hL hm
      exact (idxA_ok hi (desc_of hL hd) g2 (arg h1) (arg h2)).op hi
  case index t x y =>
    split at h <;> try (cases h; done)
    · rename_i ex ey h1 h2 hd
      cases h
      exact (idxStr_ok hi (desc_of hL hd) (arg h1) (arg h2)).op hi
    · rename_i ex ey n e h1 h2 hd
      obtain ⟨ti, hty, rfl⟩ := Option.map_eq_some_iff.1 h
      obtain ⟨i, hti⟩ := hL.ty _ ti hty
      exact (idxArr_ok hi (desc_of hL hd) hti (arg h1) (arg h2)).op hi
  case lookup t m k ok =>
    split at h <;> try (cases h; done)
    rename_i kt e em ek hd h1 h2
    split at h <;> try (cases h; done)
    · rename_i ik z hk hz
      cases h
      obtain ⟨ti, hty, hzz⟩ := Option.bind_eq_some_iff.1 hz
      obtain ⟨i, hti⟩ := hL.ty _ ti hty
      exact lookup_ok hi (desc_of hL hd) (desc_of hL hk) (.inl ⟨rfl, _, rfl⟩) hti hzz (arg h1) (arg h2) ok
    · rename_i z hk hz
      cases h
      obtain ⟨ti, hty, hzz⟩ := Option.bind_eq_some_iff.1 hz
      obtain ⟨i, hti⟩ := hL.ty _ ti hty
      exact lookup_ok hi (desc_of hL hd) (desc_of hL hk) (.inr ⟨rfl, rfl⟩) hti hzz (arg h1) (arg h2) ok
  case mapUpdate t m k v =>
    split at h <;> try (cases h; done)
    rename_i kt e em ek ev hd h1 h2 h3
    split at h <;> try (cases h; done)
    · rename_i ik hk
      cases h
      exact mapUpd_ok hi (desc_of hL hd) (desc_of hL hk) (.inl ⟨rfl, _, rfl⟩) (arg h1) (arg h2) (arg h3)
    · rename_i hk
      cases h
      exact mapUpd_ok hi (desc_of hL hd) (desc_of hL hk) (.inr ⟨rfl, rfl⟩) (arg h1) (arg h2) (arg h3)
  case range t x =>
    split at h <;> try (cases h; done)
    rename_i hd
    obtain ⟨ex, h1, rfl⟩ := Option.map_eq_some_iff.1 h
    exact range_ok (desc_of hL hd) (arg h1)
  case next x b =>
    cases b with
    | false => simp at h
    | true =>
      simp only at h
      obtain ⟨ex, h1, rfl⟩ := Option.map_eq_some_iff.1 h
      exact next_ok hi (arg h1)
  case typeAssert x xt t ok =>
    split at h <;> try (cases h; done)
    rename_i ti ex hty h1
    split at h <;> try (cases h; done)
    rename_i hni
    cases h
    obtain ⟨i, hti⟩ := hL.ty _ ti hty
    exact (assert_ok hti hni (arg h1) xt ok).op hi
  case extract x i =>
    obtain ⟨ex, h1, rfl⟩ := Option.map_eq_some_iff.1 h
    exact (extr_ok (arg h1) i).op hi
  case call c => exact op_call hi hL hg hT h
  case defer c =>
    split at h <;> try (cases h; done)
    rename_i f es hc hes
    obtain ⟨ef, hef, rfl⟩ := Option.map_eq_some_iff.1 h
    have hargs : VL G (es.map (EArg.ev tmps)) (c.args.map a.eval).toList := by
      have := lowArgs_sound hg hT hes
      simpa using this
    have hf := arg hef
    simp only [opV]
    generalize hfv : a.eval f = fv at hf
    generalize ef.ev tmps = av at hf
    cases hf <;> try trivial
    rename_i fn first cap f' c' h1 h2 h3 h4
    have vl1 : VL G first f'.toList := ⟨by simpa using h1, fun i x v hx hv => h3 i x v hx (by simpa using hv)⟩
    have vl2 : VL G cap c'.toList := ⟨by simpa using h2, fun i x v hx hv => h4 i x v hx (by simpa using hv)⟩
    refine ⟨⟨.fn fn c', f' ++ c.args.map a.eval⟩, by simp [resolve, hc, hfv, Deferred.ofValue], fun fn2 first2 cap2 he => ?_⟩
    cases he
    refine ⟨c', _, rfl, vl2, rfl, ?_⟩
    simp only [Array.toList_append]
    exact vl1.append hargs
  case panic x =>
    obtain ⟨ex, h1, rfl⟩ := Option.map_eq_some_iff.1 h
    have hx := arg h1
    simp only [opV]
    generalize a.eval x = xv at hx
    generalize ex.ev tmps = av at hx
    cases hx <;> try trivial
    rename_i t av v hv
    exact ⟨_, w, G, by simp [Instr.panic, goPanic], Post.refl hi, .iface _ _ _ hv⟩
end
end GoE

/- What a frame of the evaluator's is in the model, what a call must come to, and a plain region. No condition. -/
namespace GoE
open Go

/-- What a deferred call of the evaluator's is in the model. -/
def DefOK (G : Gh) (f : AV × List AV) (d : Deferred) : Prop :=
  ∀ fn first cap, f.1 = .func fn first cap → ∃ c' : Array Value, d.target = .fn fn c' ∧ VL G cap c'.toList ∧ VL G (first ++ f.2) d.args.toList

inductive Defs (G : Gh) : List (AV × List AV) → List Deferred → Prop
  | nil : Defs G [] []
  | cons {f : AV × List AV} {d : Deferred} {fs : List (AV × List AV)} {ds : List Deferred} : DefOK G f d → Defs G fs ds → Defs G (f :: fs) (d :: ds)

theorem Defs.mono {G G' : Gh} (hle : G.le G') {fs : List (AV × List AV)} {ds : List Deferred} (h : Defs G fs ds) : Defs G' fs ds := by
  induction h with
  | nil => exact .nil
  | cons h _ ih => exact .cons (fun fn first cap e => let ⟨c, h1, h2, h3⟩ := h fn first cap e; ⟨c, h1, h2.mono hle, h3.mono hle⟩) ih

structure FrOK (G : Gh) (fr : Fr) (a : Act) : Prop where
  tm : Tm G fr.tmps a.tmps
  len : fr.tmps.length = a.tmps.size
  defs : Defs G fr.defers a.defers

theorem FrOK.mono {G G' : Gh} (hle : G.le G') {fr : Fr} {a : Act} (h : FrOK G fr a) : FrOK G' fr a := ⟨h.tm.mono hle, h.len, h.defs.mono hle⟩

theorem tget_lset (l : List AV) (d : Nat) (v : AV) (t : Nat) : tget (lset l d v) t = if t = d ∧ d < l.length then v else tget l t := by
  rw [tget_eq, tget_eq, lset_eq]
  by_cases h : t = d
  · subst h
    by_cases hl : t < l.length
    · rw [if_pos ⟨rfl, hl⟩, List.getElem?_set_self hl]; rfl
    · rw [if_neg (by simp [hl])]
      simp [hl]
  · rw [if_neg (by simp [h]), List.getElem?_set_ne (Ne.symm h)]

theorem Tm.set {G : Gh} {tmps : List AV} {a : Array Value} (h : Tm G tmps a) (hl : tmps.length = a.size) {v : AV} {v' : Value} (hv : V G v v') (d : Nat) : Tm G (lset tmps d v) (a.setIfInBounds d v') := by
  intro t
  rw [tget_lset]
  by_cases ht : t = d ∧ d < tmps.length
  · rw [if_pos ht]
    obtain ⟨rfl, hd⟩ := ht
    have : t < a.size := by omega
    simp [this]
    exact hv
  · rw [if_neg ht]
    have := h t
    have e : (a.setIfInBounds d v').getD t Go.undef = a.getD t Go.undef := by
      by_cases hd : d < a.size
      · have hne : d ≠ t := fun e => ht ⟨e.symm, by omega⟩
        simp only [Array.getD_eq_getD_getElem?]
        rw [Array.getElem?_setIfInBounds_ne hne]
      · rw [Array.setIfInBounds_eq_of_size_le (by omega)]
    rw [e]; exact this

theorem FrOK.put {G : Gh} {fr : Fr} {a : Act} (h : FrOK G fr a) {v : AV} {v' : Value} (hv : V G v v') (dst : Option Nat) : FrOK G (fr.put dst v) (a.put dst v') := by
  cases dst with
  | none => exact h
  | some d => exact ⟨h.tm.set h.len hv d, by simp [Fr.put, Act.put, lset_eq, h.len], h.defs⟩

theorem tget_killM : ∀ (m : List Bool) (l : List AV) (t : Nat), tget (killM m l) t = .junk ∨ tget (killM m l) t = tget l t
  | [], l, t => .inr rfl
  | _ :: _, [], t => .inr rfl
  | k :: m, a :: l, 0 => by
    cases k
    · exact .inr rfl
    · exact .inl rfl
  | k :: m, a :: l, t + 1 => tget_killM m l t

theorem killM_length : ∀ (m : List Bool) (l : List AV), (killM m l).length = l.length
  | [], l => rfl
  | _ :: _, [] => rfl
  | k :: m, a :: l => by simp [killM, killM_length m l]

theorem FrOK.kill {G : Gh} {fr : Fr} {a : Act} (h : FrOK G fr a) (kl : List Bool) : FrOK G (fr.kill kl) a := by
  refine ⟨fun t => ?_, by simp only [Fr.kill, killM_length]; exact h.len, h.defs⟩
  show V G (tget (killM kl fr.tmps) t) _
  rcases tget_killM kl fr.tmps t with h1 | h1
  · rw [h1]; exact .junk _
  · rw [h1]; exact h.tm t

theorem Fr.put_rcv (fr : Fr) (dst : Option Nat) (v : AV) : (fr.put dst v).rcv = fr.rcv := by cases dst <;> rfl

/-- What the model's answer to a call leads to. -/
def Leads (P : Program) (r : Result Next) (R : Ending → World → Prop) : Prop :=
  match r with
  | .ok (.value v) w => R (.returned v) w
  | .ok (.enter f args) w => Calls P f args w R
  | .halt (.panic v) w => R (.panicked [{ v, recovered := false }]) w
  | _ => False

def RetPost (G : Gh) (s : St) (w : World) (v : AV) (s' : St) : Ending → World → Prop
  | .returned v', w' => ∃ G', Post G s w G' s' w' ∧ V G' v v'
  | _, _ => False

def PanPost (G : Gh) (s : St) (w : World) (v : AV) (s' : St) : Ending → World → Prop
  | .panicked ch, w' => ∃ v' G', ch = [{ v := v', recovered := false }] ∧ Post G s w G' s' w' ∧ V G' v v'
  | _, _ => False

def COutOK (P : Program) (f : FuncId) (args' : Array Value) (G : Gh) (s : St) (w : World) : COut → Prop
  | .ret v s' => Leads P ((callFunc f args').run P w) (RetPost G s w v s')
  | .panic v s' => Leads P ((callFunc f args').run P w) (PanPost G s w v s')
  | .fail _ => True

def CallOK (P : Program) (L : Low) (call : FuncId → List AV → St → COut) : Prop :=
  ∀ (f : FuncId) (args : List AV) (s : St) (G : Gh) (w : World) (args' : Array Value), Inv G s w → GlOK L G → VL G args args'.toList → COutOK P f args' G s w (call f args s)

inductive ExitRel (G : Gh) : EExit → Exit → Prop
  | normal : ExitRel G .normal .normal
  | exit (i : Nat) : ExitRel G (.exit i) (.exit i)
  | goto (l : Nat) : ExitRel G (.goto l) (.goto l)
  | ret : ExitRel G .ret .ret
  | panic (v : AV) (v' : Value) (h : V G v v') : ExitRel G (.panic v) (.panic [{ v := v', recovered := false }])

/-- What a piece of code must come to. -/
def ExPost (G : Gh) (s : St) (w : World) (e : EExit) (fr' : Fr) (s' : St) : Exit → Act → World → Prop :=
  fun e' a' w' => ∃ G', Post G s w G' s' w' ∧ FrOK G' fr' a' ∧ ExitRel G' e e'

def OutOK (G : Gh) (s : St) (w : World) (W : (Exit → Act → World → Prop) → Prop) : Out → Prop
  | .fail _ => True
  | .ok e fr' s' => ∀ Q : Exit → Act → World → Prop, (∀ e' a' w', ExPost G s w e fr' s' e' a' w' → Q e' a' w') → W Q

theorem ExPost.trans {G1 G2 : Gh} {s1 s2 : St} {w1 w2 : World} (hi : Inv G1 s1 w1) (h : Post G1 s1 w1 G2 s2 w2) {e : EExit} {fr' : Fr} {s' : St} {e' : Exit} {a' : Act} {w' : World} (k : ExPost G2 s2 w2 e fr' s' e' a' w') :
    ExPost G1 s1 w1 e fr' s' e' a' w' := by
  obtain ⟨G', k1, k2, k3⟩ := k
  exact ⟨G', h.trans hi k1, k2, k3⟩

section
variable {P : Program} {L : Low} {call : FuncId → List AV → St → COut}

/-- One operation that the evaluator runs. -/
theorem oper_wp (hL : LowOK P L) (hcall : CallOK P L call) {G : Gh} {s : St} {w : World} {fr : Fr} {a : Act} (hi : Inv G s w) (hg : GlOK L G) (hf : FrOK G fr a) {o : Oper} {k : EK} (hk : (lowOp L o.op).getD .bad = k)
    {K : Act → World → Prop} {Q : Exit → Act → World → Prop} :
    match opV (rtOf P) fr.tmps s k with
    | .val v => (∀ G' a' w', Post G s w G' s w' → FrOK G' (fr.put o.dst v) a' → K a' w') → o.wp P a w K Q
    | .new ob mk => (∀ G' a' w', Post G s w G' (s.alloc ob) w' → FrOK G' (fr.put o.dst (mk s.next)) a' → K a' w') → o.wp P a w K Q
    | .eff v s' => (∀ G' a' w', Post G s w G' s' w' → FrOK G' (fr.put o.dst v) a' → K a' w') → o.wp P a w K Q
    | .panic v => (∀ G' v' w', Post G s w G' s w' → V G' v v' → Q (.panic [{ v := v', recovered := false }]) a w') → o.wp P a w K Q
    | .defer f args => (∀ a', FrOK G ({ fr with defers := (f, args) :: fr.defers }.put o.dst .undef) a' → K a' w) → o.wp P a w K Q
    | .call f args => match call f args s with
      | .ret v s' => (∀ G' a' w', Post G s w G' s' w' → FrOK G' (fr.put o.dst v) a' → K a' w') → o.wp P a w K Q
      | .panic v s' => (∀ G' v' w', Post G s w G' s' w' → V G' v v' → Q (.panic [{ v := v', recovered := false }]) a w') → o.wp P a w K Q
      | .fail _ => True
    | .recover => (execOp a.eval o).run P w = .ok .recover w
    | .fail _ => True := by
  cases hlow : lowOp L o.op with
  | none =>
    rw [hlow] at hk
    subst hk
    simp [opV]
  | some k' =>
    rw [hlow] at hk
    subst hk
    have h := opV_ok hi hL hg hf.tm hlow
    have valOK : ∀ (v : AV) (s' : St), ValOK G s w v s' ((execOp a.eval o).run P w) → (∀ G' a' w', Post G s w G' s' w' → FrOK G' (fr.put o.dst v) a' → K a' w') → o.wp P a w K Q := by
      intro v s' ⟨v', w', G', h1, h2, h3⟩ hK
      unfold Oper.wp
      rcases h1 with h1 | ⟨h1, rfl⟩
      · rw [h1]; exact hK G' _ w' h2 ((hf.mono h2.le).put h3 o.dst)
      · rw [h1]; exact hK G' _ w' h2 ((hf.mono h2.le).put h3 o.dst)
    simp only [Option.getD_some]
    cases hr : opV (rtOf P) fr.tmps s k' with
    | val v => rw [hr] at h; exact valOK v s h
    | eff v s' => rw [hr] at h; exact valOK v s' h
    | fail _ => trivial
    | recover => rw [hr] at h; exact h
    | new ob mk =>
      rw [hr] at h
      obtain ⟨v', w', ob', h1, h2, h3, h4⟩ := h
      intro hK
      obtain ⟨f1, f2, f3⟩ := hi.fresh s.next (Nat.le_refl _)
      have hle : G.le (G.addBlk s.next w.heap.size) := ⟨fun _ _ _ h => h, fun q c hq => by
        simp only [Gh.addBlk]
        rw [if_neg (fun e => by subst e; rw [f2] at hq; cases hq)]
        exact hq, fun _ _ h => h, fun _ _ h => h, rfl⟩
      obtain ⟨k1, k2⟩ := h4 s.next (G.addBlk s.next w.heap.size) hle (by simp [Gh.addBlk])
      have hp := Post.newObj hi h2 h3 k2
      unfold Oper.wp
      rw [h1]
      exact hK _ _ w' hp ((hf.mono hp.le).put k1 o.dst)
    | panic v =>
      rw [hr] at h
      obtain ⟨v', w', G', h1, h2, h3⟩ := h
      intro hQ
      unfold Oper.wp
      rw [h1]
      exact hQ G' v' w' h2 h3
    | defer f args =>
      rw [hr] at h
      obtain ⟨d, h1, h2⟩ := h
      intro hK
      unfold Oper.wp
      rw [h1]
      refine hK _ (FrOK.put (fr := { fr with defers := (f, args) :: fr.defers }) (a := { a with defers := d :: a.defers }) ⟨hf.tm, hf.len, .cons (fun fn first cap e => ?_) hf.defs⟩ .undef o.dst)
      obtain ⟨c', f', g1, g2, g3, g4⟩ := h2 fn first cap e
      exact ⟨c', g1, g2, by rw [g3]; exact g4⟩
    | call f args =>
      rw [hr] at h
      obtain ⟨args', h1, h2⟩ := h
      have hc := hcall f args s G w args' hi hg h2
      simp only
      cases hcv : call f args s with
      | fail _ => trivial
      | ret v s' =>
        rw [hcv] at hc
        simp only [COutOK, ← h1] at hc
        intro hK
        unfold Oper.wp
        generalize (execOp a.eval o).run P w = r at hc
        cases r with
        | ok n w1 =>
          cases n <;> simp only [Leads] at hc <;> try exact hc.elim
          · obtain ⟨G', h3, h4⟩ := hc
            exact hK G' _ w1 h3 ((hf.mono h3.le).put h4 o.dst)
          · refine Calls.mono hc fun e w'' he => ?_
            cases e with
            | returned v' =>
              obtain ⟨G', h3, h4⟩ := he
              exact hK G' _ w'' h3 ((hf.mono h3.le).put h4 o.dst)
            | panicked ch => exact he.elim
            | outgrown => exact he.elim
        | halt x w1 =>
          cases x <;> simp only [Leads, RetPost] at hc
      | panic v s' =>
        rw [hcv] at hc
        simp only [COutOK, ← h1] at hc
        intro hQ
        unfold Oper.wp
        generalize (execOp a.eval o).run P w = r at hc
        cases r with
        | ok n w1 =>
          cases n <;> simp only [Leads] at hc <;> try exact hc.elim
          refine Calls.mono hc fun e w'' he => ?_
          cases e with
          | returned v' => exact he.elim
          | panicked ch =>
            obtain ⟨v', G', rfl, h3, h4⟩ := he
            exact hQ G' v' w'' h3 h4
          | outgrown => exact he.elim
        | halt x w1 =>
          cases x <;> simp only [Leads] at hc <;> try exact hc.elim
          obtain ⟨v', G', h0, h3, h4⟩ := hc
          injection h0 with h0 _
          injection h0 with h0 _ _
          subst h0
          exact hQ G' _ w1 h3 h4

theorem wanted_ok {G : Gh} {fr : Fr} {a : Act} (hf : FrOK G fr a) {ops : Array Oper} {o : Oper} {g : Option (Nat × Bool)} (hg : lowGuard ops o.guard = some g) {b : Bool} (h : wantedV g fr.tmps = some b) :
    Region.wanted o (yielded ops a.tmps) = b := by
  unfold Region.wanted
  cases hgu : o.guard with
  | none =>
    rw [hgu] at hg
    simp only [lowGuard, Option.some.injEq] at hg
    subst hg
    simp only [wantedV, Option.some.injEq] at h
    simp [h]
  | some p =>
    obtain ⟨j, want⟩ := p
    rw [hgu] at hg
    simp only [lowGuard] at hg
    split at hg <;> try (cases hg; done)
    rename_i t ht
    cases hg
    simp only [wantedV] at h
    have hv := hf.tm t
    generalize hav : tget fr.tmps t = av at h hv
    generalize htv : a.tmps.getD t Go.undef = tv at hv
    cases hv <;> simp only [Option.some.injEq] at h <;> try (cases h; done)
    · subst h
      have hu := htv
      have : yielded ops a.tmps j = none := by
        unfold yielded
        rw [ht]
        simp only [Option.bind_some]
        split
        · rename_i b' hb
          rw [Array.getD_eq_getD_getElem?, hb] at hu
          simp [Go.undef] at hu
        · rfl
      simp [this]
    · rename_i b'
      have hb := htv
      have : yielded ops a.tmps j = some b' := by
        unfold yielded
        rw [ht]
        simp only [Option.bind_some]
        rw [Array.getD_eq_getD_getElem?] at hb
        cases hx : a.tmps[t]? with
        | none => rw [hx] at hb; simp [Go.undef] at hb
        | some y => rw [hx] at hb; simp at hb; subst hb; rfl
      show (yielded ops a.tmps j == some want) = b
      rw [this, ← h]
      cases b' <;> cases want <;> rfl

theorem lowOpers_cons {ops : Array Oper} {o : Oper} {l : List Oper} {es : List EOp} (h : lowOpers L ops (o :: l) = some es) :
    ∃ g es', lowGuard ops o.guard = some g ∧ lowOpers L ops l = some es' ∧ es = { dst := o.dst, guard := g, k := (lowOp L o.op).getD .bad } :: es' := by
  simp only [lowOpers] at h
  cases h1 : lowOper L ops o with
  | none => simp [h1] at h
  | some e =>
    cases h2 : lowOpers L ops l with
    | none => simp [h1, h2] at h
    | some es' =>
      simp only [h1, h2, Option.some.injEq] at h
      simp only [lowOper, Option.map_eq_some_iff] at h1
      obtain ⟨g, hg, rfl⟩ := h1
      exact ⟨g, es', hg, rfl, h.symm⟩

theorem execOps_rcv (R : Rt) (call : FuncId → List AV → St → COut) : ∀ (es : List EOp) (fr : Fr) (s : St), fr.rcv = .off → ∀ e fr' s', execOps R call es fr s = .ok e fr' s' → fr'.rcv = .off
  | [], fr, s, hr, e, fr', s', h => by simp only [execOps] at h; cases h; exact hr
  | o :: es, fr, s, hr, e, fr', s', h => by
    have put : ∀ (v : AV) , (fr.put o.dst v).rcv = .off := fun v => by rw [Fr.put_rcv]; exact hr
    simp only [execOps] at h
    split at h
    · cases h
    · exact execOps_rcv R call es _ _ (put _) e fr' s' h
    · split at h
      · exact execOps_rcv R call es _ _ (put _) e fr' s' h
      · exact execOps_rcv R call es _ _ (put _) e fr' s' h
      · exact execOps_rcv R call es _ _ (put _) e fr' s' h
      · cases h; exact hr
      · exact execOps_rcv R call es _ _ (by rw [Fr.put_rcv]; exact hr) e fr' s' h
      · rw [hr] at h; cases h
      · split at h
        · exact execOps_rcv R call es _ _ (put _) e fr' s' h
        · cases h; exact hr
        · cases h
      · cases h

/-- A region in its own order. -/
theorem ops_sound (hL : LowOK P L) (hcall : CallOK P L call) {ops : Array Oper} : ∀ (l : List Oper) (es : List EOp) (fr : Fr) (s : St) (a : Act) (w : World) (G : Gh), lowOpers L ops l = some es → fr.rcv = .off →
    Inv G s w → GlOK L G → FrOK G fr a → OutOK G s w (fun Q => wpList P ops Q l a w) (execOps (rtOf P) call es fr s)
  | [], es, fr, s, a, w, G, hl, hr, hi, hg, hf => by
    simp only [lowOpers, Option.some.injEq] at hl
    subst hl
    simp only [execOps, OutOK]
    exact fun Q hQ => hQ _ _ _ ⟨G, Post.refl hi, hf, .normal⟩
  | o :: l, es, fr, s, a, w, G, hl, hr, hi, hg, hf => by
    obtain ⟨g, es', h1, h2, rfl⟩ := lowOpers_cons hl
    simp only [execOps]
    cases hw : wantedV g fr.tmps with
    | none => trivial
    | some b =>
      have hwant := wanted_ok hf h1 hw
      cases b with
      | false =>
        simp only
        have ih := ops_sound hL hcall l es' (fr.put o.dst .undef) s (a.put o.dst undef) w G h2 (by rw [Fr.put_rcv]; exact hr) hi hg (hf.put .undef o.dst)
        cases he : execOps (rtOf P) call es' (fr.put o.dst .undef) s with
        | fail _ => trivial
        | ok e fr' s' =>
          rw [he] at ih
          intro Q hQ
          show wpList P ops Q (o :: l) a w
          unfold wpList
          rw [if_neg (by rw [hwant]; simp)]
          exact ih Q hQ
      | true =>
        simp only
        have step := fun K Q => oper_wp (K := K) (Q := Q) hL hcall hi hg hf (o := o) rfl
        -- what follows, whatever state the operation leaves
        have go : ∀ (fr1 : Fr) (s1 : St), fr1.rcv = .off →
            (∀ (Q : Exit → Act → World → Prop) (K : Act → World → Prop), (∀ G' a' w', Post G s w G' s1 w' → FrOK G' fr1 a' → K a' w') → o.wp P a w K Q) →
            OutOK G s w (fun Q => wpList P ops Q (o :: l) a w) (execOps (rtOf P) call es' fr1 s1) := by
          intro fr1 s1 hr1 hop
          cases he : execOps (rtOf P) call es' fr1 s1 with
          | fail _ => trivial
          | ok e fr' s' =>
            intro Q hQ
            show wpList P ops Q (o :: l) a w
            unfold wpList
            rw [if_pos (by rw [hwant])]
            refine .inl (hop _ _ (fun G' a' w' hp hf' => ?_))
            have ih := ops_sound hL hcall l es' fr1 s1 a' w' G' h2 hr1 hp.inv (hg.mono hp.le) hf'
            rw [he] at ih
            exact ih Q (fun e' a'' w'' hq => hQ _ _ _ (ExPost.trans hi hp hq))
        have pan : ∀ (v : AV) (s1 : St), (∀ (Q : Exit → Act → World → Prop) (K : Act → World → Prop), (∀ G' v' w', Post G s w G' s1 w' → V G' v v' → Q (.panic [{ v := v', recovered := false }]) a w') → o.wp P a w K Q) →
            OutOK G s w (fun Q => wpList P ops Q (o :: l) a w) (.ok (.panic v) fr s1) := by
          intro v s1 hop Q hQ
          show wpList P ops Q (o :: l) a w
          unfold wpList
          rw [if_pos (by rw [hwant])]
          exact .inl (hop _ _ (fun G' v' w' hp hv => hQ _ _ _ ⟨G', hp, hf.mono hp.le, .panic v v' hv⟩))
        have put : ∀ (v : AV) , (fr.put o.dst v).rcv = .off := fun v => by rw [Fr.put_rcv]; exact hr
        cases hop : opV (rtOf P) fr.tmps s ((lowOp L o.op).getD .bad) with
        | val v => rw [hop] at step; exact go _ _ (put _) (fun Q K h => step K Q h)
        | new ob mk => rw [hop] at step; exact go _ _ (put _) (fun Q K h => step K Q h)
        | eff v s' => rw [hop] at step; exact go _ _ (put _) (fun Q K h => step K Q h)
        | panic v => rw [hop] at step; exact pan v s (fun Q K h => step K Q h)
        | defer f args =>
          rw [hop] at step
          exact go _ _ (by rw [Fr.put_rcv]; exact hr) (fun Q K h => step K Q (fun a' hf' => h G a' w (Post.refl hi) hf'))
        | recover => simp only [hr]; trivial
        | call f args =>
          rw [hop] at step
          simp only at step ⊢
          cases hc : call f args s with
          | fail _ => trivial
          | ret v s' => rw [hc] at step; exact go _ _ (put _) (fun Q K h => step K Q h)
          | panic v s' => rw [hc] at step; exact pan v s' (fun Q K h => step K Q h)
        | fail _ => trivial
end
end GoE

/- Code: what the evaluator runs is what the model runs. Regions that draw their order are taken on trust here ('DrawSound': shown in a text of its own). No condition. -/
namespace GoE
open Go

section
variable {P : Program} {L : Low} {call : FuncId → List AV → St → COut}

def DrawSound (P : Program) (L : Low) (call : FuncId → List AV → St → COut) : Prop :=
  ∀ (id : Nat) (ops : Array Oper) (ds : List DOp) (fr : Fr) (s : St) (a : Act) (w : World) (G : Gh), lowDraw L ops = some ds → fr.rcv = .off → Inv G s w → GlOK L G → FrOK G fr a →
    OutOK G s w (fun Q => (Code.region id ops true).wp P Q a w) (runDraw (rtOf P) call ds fr s)

/-! The mode of a frame. -/

theorem execDraw_rcv (R : Rt) (call : FuncId → List AV → St → COut) (base : Nat) : ∀ (l : List DOp) (pos : Nat) (fr : Fr) (s : St) (log : List DLog), ∀ e fr' s' log', execDraw R call base pos l fr s log = (.ok e fr' s', log') → fr'.rcv = fr.rcv
  | [], pos, fr, s, log, e, fr', s', log', h => by simp only [execDraw] at h; cases h; rfl
  | o :: es, pos, fr, s, log, e, fr', s', log', h => by
    simp only [execDraw] at h
    have go : ∀ (v : AV) (s1 : St) (lg : List DLog), execDraw R call base (pos + 1) es (fr.put o.op.dst v) s1 lg = (.ok e fr' s', log') → fr'.rcv = fr.rcv := fun v s1 lg hh => by
      rw [execDraw_rcv R call base es _ _ _ _ e fr' s' log' hh, Fr.put_rcv]
    split at h
    · cases h
    · exact go _ _ _ h
    · split at h
      · exact go _ _ _ h
      · split at h
        · exact go _ _ _ h
        · exact go _ _ _ h
        · cases h
      · split at h
        · exact go _ _ _ h
        · cases h
      · split at h
        · cases h; rfl
        · cases h
      · split at h
        · split at h
          · exact go _ _ _ h
          · split at h
            · cases h; rfl
            · cases h
          · cases h
        · cases h
      · cases h
      · cases h

theorem runDraw_rcv (R : Rt) (call : FuncId → List AV → St → COut) (l : List DOp) (fr : Fr) (s : St) (e : EExit) (fr' : Fr) (s' : St) (h : runDraw R call l fr s = .ok e fr' s') : fr'.rcv = fr.rcv := by
  unfold runDraw at h
  split at h
  · rename_i heq
    split at h
    · cases h; exact execDraw_rcv R call _ l _ _ _ _ _ _ _ _ heq
    · cases h
  · rename_i o lg hne heq
    subst h
    exact absurd rfl (hne _ _ _)

theorem exec_rcv (R : Rt) (call : FuncId → List AV → St → COut) : ∀ (n : Nat) (c : EC) (fr : Fr) (s : St), fr.rcv = .off → ∀ e fr' s', exec R call n c fr s = .ok e fr' s' → fr'.rcv = .off
  | 0, c, fr, s, hr, e, fr', s', h => by cases h
  | n + 1, c, fr, s, hr, e, fr', s', h => by
    have ih := exec_rcv R call n
    cases c <;> simp only [exec] at h
    case skip => cases h; exact hr
    case label => cases h; exact hr
    case exit => cases h; exact hr
    case goto => cases h; exact hr
    case ret => cases h; exact hr
    case stop => cases h
    case ops l => exact execOps_rcv R call l fr s hr e fr' s' h
    case draw l => rw [runDraw_rcv R call l fr s e fr' s' h]; exact hr
    case seq x y =>
      split at h
      · rename_i fr1 s1 h1; exact ih y fr1 s1 (ih x fr s hr _ _ _ h1) e fr' s' h
      · exact ih x fr s hr e fr' s' h
    case cond x y z =>
      split at h
      · exact ih _ fr s hr e fr' s' h
      · cases h
    case block id b =>
      split at h
      · rename_i i fr1 s1 h1
        have := ih b fr s hr _ _ _ h1
        split at h <;> (cases h; exact this)
      · exact ih b fr s hr e fr' s' h
    case loop kl b =>
      split at h
      · rename_i fr1 s1 h1; exact ih _ fr1 s1 (ih b (fr.kill kl) s hr _ _ _ h1) e fr' s' h
      · exact ih b (fr.kill kl) s hr e fr' s' h
    case scope b => exact ih _ fr s hr e fr' s' h
    case scopeAt w b =>
      split at h
      · rename_i l fr1 s1 h1
        have := ih b fr s hr _ _ _ h1
        split at h
        · exact ih _ fr1 s1 this e fr' s' h
        · cases h; exact this
      · exact ih b fr s hr e fr' s' h

/-! Labels. -/

theorem find_low {ks : EC → List Bool} : ∀ (c : Code) (ec : EC) (l : Nat), lowCode L ks c = some ec → (match ec.find l with
    | some er => ∃ r, findLabel c l = some r ∧ lowCode L ks r = some er
    | none => findLabel c l = none)
  | .seq x y, ec, l, h => by
    simp only [lowCode] at h
    cases h1 : lowCode L ks x with
    | none => simp [h1] at h
    | some ex =>
      cases h2 : lowCode L ks y with
      | none => simp [h1, h2] at h
      | some ey =>
        simp only [h1, h2, Option.some.injEq] at h
        subst h
        have i1 := find_low x ex l h1
        have i2 := find_low y ey l h2
        simp only [EC.find, findLabel]
        cases hx : ex.find l with
        | some er =>
          rw [hx] at i1
          obtain ⟨r, g1, g2⟩ := i1
          simp only [g1]
          exact ⟨_, rfl, by simp [lowCode, g2, h2]⟩
        | none =>
          rw [hx] at i1
          simp only [i1]
          cases hy : ey.find l with
          | some er => rw [hy] at i2; exact i2
          | none => rw [hy] at i2; exact i2
  | .label l', ec, l, h => by
    simp only [lowCode, Option.some.injEq] at h
    subst h
    simp only [EC.find, findLabel, beq_iff_eq]
    split
    · rename_i heq
      split at heq
      · rename_i e
        cases heq
        exact ⟨.skip, by rw [if_pos e], rfl⟩
      · cases heq
    · rename_i heq
      split at heq
      · cases heq
      · rename_i e; rw [if_neg e]
  | .skip, ec, l, h => by simp only [lowCode, Option.some.injEq] at h; subst h; rfl
  | .region id ops b, ec, l, h => by
    cases b
    · simp only [lowCode, Option.map_eq_some_iff] at h
      obtain ⟨es, _, rfl⟩ := h
      rfl
    · simp only [lowCode, Option.map_eq_some_iff] at h
      obtain ⟨es, _, rfl⟩ := h
      rfl
  | .cond c x y, ec, l, h => by
    simp only [lowCode] at h
    split at h <;> try (cases h; done)
    cases h; rfl
  | .block id b, ec, l, h => by
    simp only [lowCode, Option.map_eq_some_iff] at h
    obtain ⟨es, _, rfl⟩ := h
    rfl
  | .loop b, ec, l, h => by
    simp only [lowCode, Option.map_eq_some_iff] at h
    obtain ⟨es, _, rfl⟩ := h
    rfl
  | .exit id, ec, l, h => by simp only [lowCode, Option.some.injEq] at h; subst h; rfl
  | .scope b, ec, l, h => by
    simp only [lowCode, Option.map_eq_some_iff] at h
    obtain ⟨es, _, rfl⟩ := h
    rfl
  | .goto l', ec, l, h => by simp only [lowCode, Option.some.injEq] at h; subst h; rfl
  | .ret, ec, l, h => by simp only [lowCode, Option.some.injEq] at h; subst h; rfl
  | .rangeFunc .., ec, l, h => by simp only [lowCode, Option.some.injEq] at h; subst h; rfl
  | .refuse _, ec, l, h => by simp only [lowCode, Option.some.injEq] at h; subst h; rfl

/-! Code on a stack of what is still to do. -/

/-- The items 'x' ahead of any others come to 'Q'. -/
def WPi (P : Program) (x : List Item) (Q : Exit → Act → World → Prop) (a : Act) (w : World) : Prop :=
  ∀ (b : Frame) (k : List Item) (cs : List Frame), ∃ e a' w', Q e a' w' ∧ Arrives P (lone (b.at a (x ++ k)) cs w) b k cs e a' w'

theorem ex_exit {G : Gh} {e : EExit} {e' : Exit} (h : ExitRel G e e') : e = .normal ↔ e' = .normal := by
  cases h <;> simp

def SoundAt (P : Program) (L : Low) (call : FuncId → List AV → St → COut) (n : Nat) : Prop :=
  ∀ (fr : Fr) (s : St) (a : Act) (w : World) (G : Gh), fr.rcv = .off → Inv G s w → GlOK L G → FrOK G fr a →
    (∀ ks c ec, lowCode L ks c = some ec → OutOK G s w (fun Q => c.wp P Q a w) (exec (rtOf P) call n ec fr s)) ∧
    (∀ ks kl c ec, lowCode L ks c = some ec → OutOK G s w (fun Q => WPi P [.code c, .inLoop c] Q a w) (exec (rtOf P) call n (.loop kl ec) fr s)) ∧
    (∀ ks c ec d ed, lowCode L ks c = some ec → lowCode L ks d = some ed → OutOK G s w (fun Q => WPi P [.code c, .inScope d] Q a w) (exec (rtOf P) call n (.scopeAt ed ec) fr s))

theorem exec_sound (hL : LowOK P L) (hcall : CallOK P L call) (hdraw : DrawSound P L call) : ∀ n, SoundAt P L call n
  | 0 => fun fr s a w G hr hi hg hf => ⟨fun ks c ec h => trivial, fun ks kl c ec h => trivial, fun ks c ec d ed h h' => trivial⟩
  | n + 1 => fun fr s a w G hr hi hg hf => by
    have ih := exec_sound hL hcall hdraw n
    have hloop : ∀ ks kl c ec, lowCode L ks c = some ec → OutOK G s w (fun Q => WPi P [.code c, .inLoop c] Q a w) (exec (rtOf P) call (n + 1) (.loop kl ec) fr s) := by
      intro ks kl c ec h
      have i1 := (ih (fr.kill kl) s a w G hr hi hg (hf.kill kl)).1 ks c ec h
      simp only [exec]
      cases he : exec (rtOf P) call n ec (fr.kill kl) s with
      | fail _ => trivial
      | ok e fr1 s1 =>
        rw [he] at i1
        have hr1 := exec_rcv _ _ n ec (fr.kill kl) s hr e fr1 s1 he
        have thru : e ≠ .normal → OutOK G s w (fun Q => WPi P [.code c, .inLoop c] Q a w) (.ok e fr1 s1) := by
          intro hne Q hQ fb k cs
          obtain ⟨e', a', w', hx, harr⟩ := i1 (ExPost G s w e fr1 s1) (fun _ _ _ h => h) fb (.inLoop c :: k) cs
          have hn : e' ≠ .normal := by
            obtain ⟨G', _, _, hrel⟩ := hx
            intro h0; exact hne ((ex_exit hrel).2 h0)
          exact ⟨e', a', w', hQ _ _ _ hx, .pass (x := .inLoop c) rfl (fun _ _ => .inl hn) harr⟩
        cases e with
        | normal =>
          simp only
          cases he2 : exec (rtOf P) call n (.loop kl ec) fr1 s1 with
          | fail _ => trivial
          | ok e2 fr2 s2 =>
            intro Q hQ fb k cs
            obtain ⟨e', a', w', hx, harr⟩ := i1 (ExPost G s w .normal fr1 s1) (fun _ _ _ h => h) fb (.inLoop c :: k) cs
            obtain ⟨G', hp, hf', hrel⟩ := hx
            cases hrel
            have i2 := (ih fr1 s1 a' w' G' hr1 hp.inv (hg.mono hp.le) hf').2.1 ks kl c ec h
            rw [he2] at i2
            obtain ⟨e3, a3, w3, hq3, harr3⟩ := i2 Q (fun e3 a3 w3 h3 => hQ _ _ _ (ExPost.trans hi hp h3)) fb k cs
            exact ⟨e3, a3, w3, hq3, .of_steps (Steps.trans harr (.one step_inLoop)) harr3⟩
        | exit i => exact thru (by simp)
        | goto i => exact thru (by simp)
        | ret => exact thru (by simp)
        | panic i => exact thru (by simp)
    refine ⟨fun ks c ec h => ?_, fun ks kl c ec h => ?_, fun ks c ec d ed h hd => ?_⟩
    · -- one piece of code
      have simple : ∀ {e : EExit}, (∀ Q : Exit → Act → World → Prop, (∀ e' , ExitRel G e e' → Q e' a w) → c.wp P Q a w) →
          OutOK G s w (fun Q => c.wp P Q a w) (.ok e fr s) := by
        intro e hc Q hQ
        exact hc Q (fun e' he => hQ _ _ _ ⟨G, Post.refl hi, hf, he⟩)
      cases c with
      | skip =>
        simp only [lowCode, Option.some.injEq] at h; subst h
        exact simple (fun Q hQ => wp_skip (hQ _ .normal))
      | label l =>
        simp only [lowCode, Option.some.injEq] at h; subst h
        exact simple (fun Q hQ => wp_label (hQ _ .normal))
      | exit id =>
        simp only [lowCode, Option.some.injEq] at h; subst h
        exact simple (fun Q hQ => wp_exit (hQ _ (.exit id)))
      | goto l =>
        simp only [lowCode, Option.some.injEq] at h; subst h
        exact simple (fun Q hQ => wp_goto (hQ _ (.goto l)))
      | ret =>
        simp only [lowCode, Option.some.injEq] at h; subst h
        exact simple (fun Q hQ => wp_ret (hQ _ .ret))
      | rangeFunc =>
        simp only [lowCode, Option.some.injEq] at h; subst h
        trivial
      | refuse =>
        simp only [lowCode, Option.some.injEq] at h; subst h
        trivial
      | region id ops b =>
        cases b with
        | false =>
          simp only [lowCode, Option.map_eq_some_iff] at h
          obtain ⟨es, h1, rfl⟩ := h
          simp only [exec]
          have := ops_sound hL hcall ops.toList es fr s a w G h1 hr hi hg hf
          cases he : execOps (rtOf P) call es fr s with
          | fail _ => trivial
          | ok e fr' s' =>
            rw [he] at this
            exact fun Q hQ => wp_region_list (this Q hQ)
        | true =>
          simp only [lowCode, Option.map_eq_some_iff] at h
          obtain ⟨es, h1, rfl⟩ := h
          exact hdraw id ops es fr s a w G h1 hr hi hg hf
      | seq x y =>
        simp only [lowCode] at h
        cases h1 : lowCode L ks x with
        | none => simp [h1] at h
        | some ex =>
          cases h2 : lowCode L ks y with
          | none => simp [h1, h2] at h
          | some ey =>
            simp only [h1, h2, Option.some.injEq] at h
            subst h
            have i1 := (ih fr s a w G hr hi hg hf).1 ks x ex h1
            simp only [exec]
            cases he : exec (rtOf P) call n ex fr s with
            | fail _ => trivial
            | ok e fr1 s1 =>
              rw [he] at i1
              have hr1 := exec_rcv _ _ n ex fr s hr e fr1 s1 he
              have thru : e ≠ .normal → OutOK G s w (fun Q => (Code.seq x y).wp P Q a w) (.ok e fr1 s1) := by
                intro hne Q hQ
                refine wp_seq (i1 _ (fun e' a' w' hx => ?_))
                have : e' ≠ .normal := by
                  obtain ⟨G', _, _, hrel⟩ := hx
                  intro h0; exact hne ((ex_exit hrel).2 h0)
                cases e' <;> first | exact absurd rfl this | exact hQ _ _ _ hx
              cases e with
              | normal =>
                simp only
                cases he2 : exec (rtOf P) call n ey fr1 s1 with
                | fail _ => trivial
                | ok e2 fr2 s2 =>
                  intro Q hQ
                  refine wp_seq (i1 _ (fun e' a' w' hx => ?_))
                  obtain ⟨G', hp, hf', hrel⟩ := hx
                  cases hrel
                  have i2 := (ih fr1 s1 a' w' G' hr1 hp.inv (hg.mono hp.le) hf').1 ks y ey h2
                  rw [he2] at i2
                  exact i2 Q (fun e3 a3 w3 h3 => hQ _ _ _ (ExPost.trans hi hp h3))
              | exit i => exact thru (by simp)
              | goto i => exact thru (by simp)
              | ret => exact thru (by simp)
              | panic i => exact thru (by simp)
      | cond c x y =>
        simp only [lowCode] at h
        split at h <;> try (cases h; done)
        rename_i ec' ex ey h1 h2 h3
        cases h
        have hv := lowArg_sound (a := a) hg hf.tm h1
        simp only [exec]
        split
        · rename_i t ht
          rw [ht] at hv
          generalize hcv : a.eval c = cv at hv
          cases hv
          have i1 : OutOK G s w (fun Q => (if t then x else y).wp P Q a w) (exec (rtOf P) call n (if t then ex else ey) fr s) := by
            cases t
            · exact (ih fr s a w G hr hi hg hf).1 ks y ey h3
            · exact (ih fr s a w G hr hi hg hf).1 ks x ex h2
          cases he : exec (rtOf P) call n (if t then ex else ey) fr s with
          | fail _ => trivial
          | ok e fr' s' =>
            rw [he] at i1
            exact fun Q hQ => wp_cond hcv (i1 Q hQ)
        · trivial
      | block id b =>
        simp only [lowCode, Option.map_eq_some_iff] at h
        obtain ⟨eb, h1, rfl⟩ := h
        have i1 := (ih fr s a w G hr hi hg hf).1 ks b eb h1
        simp only [exec]
        cases he : exec (rtOf P) call n eb fr s with
        | fail _ => trivial
        | ok e fr1 s1 =>
          rw [he] at i1
          have thru : (∀ i, e ≠ .exit i) → OutOK G s w (fun Q => (Code.block id b).wp P Q a w) (.ok e fr1 s1) := by
            intro hne Q hQ
            refine wp_block (i1 _ (fun e' a' w' hx => ?_))
            have : ∀ i, e' ≠ .exit i := by
              obtain ⟨G', _, _, hrel⟩ := hx
              intro i h0
              subst h0
              cases hrel
              exact hne i rfl
            cases e' <;> first | exact absurd rfl (this _) | exact hQ _ _ _ hx
          cases e with
          | exit i =>
            simp only
            split
            · rename_i hii
              subst hii
              intro Q hQ
              refine wp_block (i1 _ (fun e' a' w' hx => ?_))
              obtain ⟨G', hp, hf', hrel⟩ := hx
              cases hrel
              simp only [Exit.inBlock, if_true]
              exact hQ _ _ _ ⟨G', hp, hf', .normal⟩
            · rename_i hii
              intro Q hQ
              refine wp_block (i1 _ (fun e' a' w' hx => ?_))
              obtain ⟨G', hp, hf', hrel⟩ := hx
              cases hrel
              simp only [Exit.inBlock, if_neg hii]
              exact hQ _ _ _ ⟨G', hp, hf', .exit i⟩
          | normal => exact thru (by simp)
          | goto i => exact thru (by simp)
          | ret => exact thru (by simp)
          | panic i => exact thru (by simp)
      | loop b =>
        simp only [lowCode, Option.map_eq_some_iff] at h
        obtain ⟨eb, h1, rfl⟩ := h
        have i1 := hloop ks (ks eb) b eb h1
        cases he : exec (rtOf P) call (n + 1) (.loop (ks eb) eb) fr s with
        | fail _ => trivial
        | ok e fr1 s1 =>
          rw [he] at i1
          intro Q hQ fb k cs
          obtain ⟨e', a', w', hq, harr⟩ := i1 Q hQ fb k cs
          exact ⟨e', a', w', hq, .of_steps (.one step_loop) harr⟩
      | scope b =>
        simp only [lowCode, Option.map_eq_some_iff] at h
        obtain ⟨eb, h1, rfl⟩ := h
        have i1 := (ih fr s a w G hr hi hg hf).2.2 ks b eb b eb h1 h1
        simp only [exec]
        cases he : exec (rtOf P) call n (.scopeAt eb eb) fr s with
        | fail _ => trivial
        | ok e fr1 s1 =>
          rw [he] at i1
          intro Q hQ fb k cs
          obtain ⟨e', a', w', hq, harr⟩ := i1 Q hQ fb k cs
          exact ⟨e', a', w', hq, .of_steps (.one step_scope) harr⟩
    · exact hloop ks kl c ec h
    · -- a scope's code
      have i1 := (ih fr s a w G hr hi hg hf).1 ks c ec h
      simp only [exec]
      cases he : exec (rtOf P) call n ec fr s with
      | fail _ => trivial
      | ok e fr1 s1 =>
        rw [he] at i1
        have hr1 := exec_rcv _ _ n ec fr s hr e fr1 s1 he
        -- an exit that the scope does not catch
        have pass : ∀ {e' : Exit} {a' : Act} {w' : World} {fb : Frame} {k : List Item} {cs : List Frame} {m : Machine}, (∀ l, e' = .goto l → findLabel d l = none) → Arrives P m fb (.inScope d :: k) cs e' a' w' → Arrives P m fb k cs e' a' w' := by
          intro e' a' w' fb k cs m hgo harr
          cases e' with
          | normal => exact Steps.trans harr (.one step_inScope)
          | exit id => exact fun k' hk => harr k' (by simp [exitTo, hk])
          | goto l => exact fun k' hk => harr k' (by simp [gotoIn, hgo l rfl, hk])
          | ret => exact harr
          | panic ch => exact harr
          | outgrown => exact harr
        have thru : (∀ l, e ≠ .goto l) → OutOK G s w (fun Q => WPi P [.code c, .inScope d] Q a w) (.ok e fr1 s1) := by
          intro hne Q hQ fb k cs
          obtain ⟨e', a', w', hx, harr⟩ := i1 (ExPost G s w e fr1 s1) (fun _ _ _ h => h) fb (.inScope d :: k) cs
          refine ⟨e', a', w', hQ _ _ _ hx, pass (fun l h0 => ?_) harr⟩
          obtain ⟨G', _, _, hrel⟩ := hx
          subst h0
          cases hrel
          exact absurd rfl (hne l)
        cases e with
        | goto l =>
          simp only
          have hfl := find_low d ed l hd
          cases hfd : ed.find l with
          | none =>
            rw [hfd] at hfl
            simp only
            intro Q hQ fb k cs
            obtain ⟨e', a', w', hx, harr⟩ := i1 (ExPost G s w (.goto l) fr1 s1) (fun _ _ _ h => h) fb (.inScope d :: k) cs
            refine ⟨e', a', w', hQ _ _ _ hx, pass (fun l' h0 => ?_) harr⟩
            obtain ⟨G', _, _, hrel⟩ := hx
            subst h0
            cases hrel
            exact hfl
          | some er =>
            rw [hfd] at hfl
            obtain ⟨rest, g1, g2⟩ := hfl
            simp only
            cases he2 : exec (rtOf P) call n (.scopeAt ed er) fr1 s1 with
            | fail _ => trivial
            | ok e2 fr2 s2 =>
              intro Q hQ fb k cs
              obtain ⟨e', a', w', hx, harr⟩ := i1 (ExPost G s w (.goto l) fr1 s1) (fun _ _ _ h => h) fb (.inScope d :: k) cs
              obtain ⟨G', hp, hf', hrel⟩ := hx
              cases hrel
              have i2 := (ih fr1 s1 a' w' G' hr1 hp.inv (hg.mono hp.le) hf').2.2 ks rest er d ed g2 hd
              rw [he2] at i2
              obtain ⟨e3, a3, w3, hq3, harr3⟩ := i2 Q (fun e3 a3 w3 h3 => hQ _ _ _ (ExPost.trans hi hp h3)) fb k cs
              exact ⟨e3, a3, w3, hq3, .of_steps (harr _ (by simp [gotoIn, g1])) harr3⟩
        | normal => exact thru (by simp)
        | exit i => exact thru (by simp)
        | ret => exact thru (by simp)
        | panic i => exact thru (by simp)
end
end GoE

/- Deferred functions, results, whole functions, calls of calls. No condition. -/
namespace GoE
open Go

section
variable {P : Program} {L : Low} {call : FuncId → List AV → St → COut}

/-- What 'recover' finds, and the caller's mode. -/
def RcvRel (G : Gh) : RecMode → FrameMode → Prop
  | .off, _ => False
  | .none, u => u = .returning
  | .avail v, u => ∃ v', u = .panicking [{ v := v', recovered := false }] ∧ V G v v'
  | .taken, u => ∃ v', u = .panicking [{ v := v', recovered := true }]

theorem RcvRel.mono {G G' : Gh} (hle : G.le G') {r : RecMode} {u : FrameMode} (h : RcvRel G r u) : RcvRel G' r u := by
  cases r with
  | avail v => obtain ⟨v', h1, h2⟩ := h; exact ⟨v', h1, h2.mono hle⟩
  | _ => exact h

def ExPostS (G : Gh) (s : St) (w : World) (e : EExit) (fr' : Fr) (s' : St) (c₀ : Frame) (cs : List Frame) : Exit → Act → List Frame → World → Prop :=
  fun e' a' cs' w' => ∃ G' u', Post G s w G' s' w' ∧ FrOK G' fr' a' ∧ ExitRel G' e e' ∧ cs' = { c₀ with mode := u' } :: cs ∧ RcvRel G' fr'.rcv u'

def OutOKS (G : Gh) (s : St) (w : World) (c₀ : Frame) (cs : List Frame) (W : (Exit → Act → List Frame → World → Prop) → Prop) : Out → Prop
  | .fail _ => True
  | .ok e fr' s' => ∀ Q : Exit → Act → List Frame → World → Prop, (∀ e' a' cs' w', ExPostS G s w e fr' s' c₀ cs e' a' cs' w' → Q e' a' cs' w') → W Q

theorem ExPostS.trans {G1 G2 : Gh} {s1 s2 : St} {w1 w2 : World} (hi : Inv G1 s1 w1) (h : Post G1 s1 w1 G2 s2 w2) {e : EExit} {fr' : Fr} {s' : St} {c₀ : Frame} {cs : List Frame} {u : FrameMode} {e' : Exit} {a' : Act} {cs' : List Frame} {w' : World}
    (k : ExPostS G2 s2 w2 e fr' s' { c₀ with mode := u } cs e' a' cs' w') : ExPostS G1 s1 w1 e fr' s' c₀ cs e' a' cs' w' := by
  obtain ⟨G', u', k1, k2, k3, k4, k5⟩ := k
  exact ⟨G', u', h.trans hi k1, k2, k3, k4, k5⟩

/-- A region in its own order, in a deferred function. -/
theorem ops_soundS (hL : LowOK P L) (hcall : CallOK P L call) {ops : Array Oper} : ∀ (l : List Oper) (es : List EOp) (k : Nat) (fr : Fr) (s : St) (a : Act) (w : World) (G : Gh) (c₀ : Frame) (cs : List Frame) (u : FrameMode),
    (∀ j, l[j]? = ops[k + j]?) → lowOpers L ops l = some es → RcvRel G fr.rcv u → Inv G s w → GlOK L G → FrOK G fr a →
    OutOKS G s w c₀ cs (fun Q => wpOpsS P ops Q (List.range' k l.length) a ({ c₀ with mode := u } :: cs) w) (execOps (rtOf P) call es fr s)
  | [], es, k, fr, s, a, w, G, c₀, cs, u, hk, hl, hr, hi, hg, hf => by
    simp only [lowOpers, Option.some.injEq] at hl
    subst hl
    simp only [execOps, OutOKS, List.length_nil, List.range'_zero]
    exact fun Q hQ => hQ _ _ _ _ ⟨G, u, Post.refl hi, hf, .normal, rfl, hr⟩
  | o :: l, es, k, fr, s, a, w, G, c₀, cs, u, hk, hl, hr, hi, hg, hf => by
    obtain ⟨g, es', h1, h2, rfl⟩ := lowOpers_cons hl
    have h0 : ops[k]? = some o := by simpa using (hk 0).symm
    have hk' : ∀ j, l[j]? = ops[k + 1 + j]? := fun j => by have := hk (j + 1); simpa [Nat.add_assoc, Nat.add_comm 1 j] using this
    simp only [execOps, List.length_cons, List.range'_succ]
    cases hw : wantedV g fr.tmps with
    | none => trivial
    | some b =>
      have hwant := wanted_ok hf h1 hw
      cases b with
      | false =>
        simp only
        have ih := ops_soundS hL hcall l es' (k + 1) (fr.put o.dst .undef) s (a.put o.dst undef) w G c₀ cs u hk' h2 (by rw [Fr.put_rcv]; exact hr) hi hg (hf.put .undef o.dst)
        cases he : execOps (rtOf P) call es' (fr.put o.dst .undef) s with
        | fail _ => trivial
        | ok e fr' s' =>
          rw [he] at ih
          intro Q hQ
          show wpOpsS P ops Q (k :: List.range' (k + 1) l.length) a _ w
          unfold wpOpsS
          simp only [h0]
          rw [if_neg (by rw [hwant]; simp)]
          exact ih Q hQ
      | true =>
        simp only
        have step := fun K Q => oper_wp (K := K) (Q := Q) hL hcall hi hg hf (o := o) rfl
        have go : ∀ (fr1 : Fr) (s1 : St), fr1.rcv = fr.rcv →
            (∀ (Q : Exit → Act → World → Prop) (K : Act → World → Prop), (∀ G' a' w', Post G s w G' s1 w' → FrOK G' fr1 a' → K a' w') → o.wp P a w K Q) →
            OutOKS G s w c₀ cs (fun Q => wpOpsS P ops Q (k :: List.range' (k + 1) l.length) a ({ c₀ with mode := u } :: cs) w) (execOps (rtOf P) call es' fr1 s1) := by
          intro fr1 s1 hr1 hop
          cases he : execOps (rtOf P) call es' fr1 s1 with
          | fail _ => trivial
          | ok e fr' s' =>
            intro Q hQ
            show wpOpsS P ops Q (k :: List.range' (k + 1) l.length) a _ w
            unfold wpOpsS
            simp only [h0]
            rw [if_pos (by rw [hwant])]
            have hu := hop (fun e' a' w' => Q e' a' ({ c₀ with mode := u } :: cs) w') (fun a' w' => wpOpsS P ops Q (List.range' (k + 1) l.length) a' ({ c₀ with mode := u } :: cs) w') (fun G' a' w' hp hf' => by
              have ih := ops_soundS hL hcall l es' (k + 1) fr1 s1 a' w' G' c₀ cs u hk' h2 (by rw [hr1]; exact hr.mono hp.le) hp.inv (hg.mono hp.le) hf'
              rw [he] at ih
              exact ih Q (fun e' a'' cs'' w'' hq => hQ _ _ _ _ (ExPostS.trans (u := c₀.mode) hi hp hq)))
            unfold Oper.wp at hu
            generalize (execOp a.eval o).run P w = r at hu ⊢
            cases r with
            | ok n w1 => cases n <;> first | exact hu | exact hu.elim
            | halt x w1 => exact hu
        have pan : ∀ (v : AV) (s1 : St), (∀ (Q : Exit → Act → World → Prop) (K : Act → World → Prop), (∀ G' v' w', Post G s w G' s1 w' → V G' v v' → Q (.panic [{ v := v', recovered := false }]) a w') → o.wp P a w K Q) →
            OutOKS G s w c₀ cs (fun Q => wpOpsS P ops Q (k :: List.range' (k + 1) l.length) a ({ c₀ with mode := u } :: cs) w) (.ok (.panic v) fr s1) := by
          intro v s1 hop Q hQ
          show wpOpsS P ops Q (k :: List.range' (k + 1) l.length) a _ w
          unfold wpOpsS
          simp only [h0]
          rw [if_pos (by rw [hwant])]
          have hu := hop (fun e' a' w' => Q e' a' ({ c₀ with mode := u } :: cs) w') (fun a' w' => wpOpsS P ops Q (List.range' (k + 1) l.length) a' ({ c₀ with mode := u } :: cs) w')
            (fun G' v' w' hp hv => hQ _ _ _ _ ⟨G', u, hp, hf.mono hp.le, .panic v v' hv, rfl, hr.mono hp.le⟩)
          unfold Oper.wp at hu
          generalize (execOp a.eval o).run P w = r at hu ⊢
          cases r with
          | ok n w1 => cases n <;> first | exact hu | exact hu.elim
          | halt x w1 => exact hu
        cases hop : opV (rtOf P) fr.tmps s ((lowOp L o.op).getD .bad) with
        | val v => rw [hop] at step; exact go _ _ (Fr.put_rcv _ _ _) (fun Q K h => step K Q h)
        | new ob mk => rw [hop] at step; exact go _ _ (Fr.put_rcv _ _ _) (fun Q K h => step K Q h)
        | eff v s' => rw [hop] at step; exact go _ _ (Fr.put_rcv _ _ _) (fun Q K h => step K Q h)
        | panic v => rw [hop] at step; exact pan v s (fun Q K h => step K Q h)
        | defer f args =>
          rw [hop] at step
          exact go _ _ (by rw [Fr.put_rcv]) (fun Q K h => step K Q (fun a' hf' => h G a' w (Post.refl hi) hf'))
        | recover =>
          have hrec : (execOp a.eval o).run P w = .ok .recover w := by
            have := step (fun _ _ => True) (fun _ _ _ => True)
            rw [hop] at this
            exact this
          -- what the caller's mode gives
          have fin : ∀ (fr1 : Fr) (v : AV) (v' : Value) (u1 : FrameMode), fr1.tmps = fr.tmps → fr1.defers = fr.defers → V G v v' → RcvRel G fr1.rcv u1 →
              (∀ Q : Exit → Act → List Frame → World → Prop, wpOpsS P ops Q (List.range' (k + 1) l.length) (a.put o.dst v') ({ c₀ with mode := u1 } :: cs) w →
                wpOpsS P ops Q (k :: List.range' (k + 1) l.length) a ({ c₀ with mode := u } :: cs) w) →
              OutOKS G s w c₀ cs (fun Q => wpOpsS P ops Q (k :: List.range' (k + 1) l.length) a ({ c₀ with mode := u } :: cs) w) (execOps (rtOf P) call es' (fr1.put o.dst v) s) := by
            intro fr1 v v' u1 e1 e2 hv hr1 hW
            have hf1 : FrOK G fr1 a := ⟨by rw [e1]; exact hf.tm, by rw [e1]; exact hf.len, by rw [e2]; exact hf.defs⟩
            have ih := ops_soundS hL hcall l es' (k + 1) (fr1.put o.dst v) s (a.put o.dst v') w G c₀ cs u1 hk' h2 (by rw [Fr.put_rcv]; exact hr1) hi hg (hf1.put hv o.dst)
            cases he : execOps (rtOf P) call es' (fr1.put o.dst v) s with
            | fail _ => trivial
            | ok e fr' s' =>
              rw [he] at ih
              exact fun Q hQ => hW Q (ih Q hQ)
          have unf : ∀ (Q : Exit → Act → List Frame → World → Prop) (x : Option (Value × List Frame)), recoverD ({ c₀ with mode := u } :: cs) = x →
              (match x with
                | some (v, cs') => wpOpsS P ops Q (List.range' (k + 1) l.length) (a.put o.dst v) cs' w
                | none => wpOpsS P ops Q (List.range' (k + 1) l.length) (a.put o.dst .nilIface) ({ c₀ with mode := u } :: cs) w) →
              wpOpsS P ops Q (k :: List.range' (k + 1) l.length) a ({ c₀ with mode := u } :: cs) w := by
            intro Q x hx h
            subst hx
            unfold wpOpsS
            simp only [h0]
            rw [if_pos (by rw [hwant]), hrec]
            exact h
          simp only
          cases hrv : fr.rcv with
          | off => rw [hrv] at hr; exact hr.elim
          | none =>
            rw [hrv] at hr
            have hu : u = .returning := hr
            subst hu
            exact fin fr .nilIface .nilIface .returning rfl rfl .nilIface (by rw [hrv]; rfl) (fun Q h => unf Q none rfl h)
          | taken =>
            rw [hrv] at hr
            obtain ⟨v', hu⟩ := hr
            subst hu
            exact fin fr .nilIface .nilIface _ rfl rfl .nilIface (by rw [hrv]; exact ⟨v', rfl⟩) (fun Q h => unf Q none rfl h)
          | avail v =>
            rw [hrv] at hr
            obtain ⟨v', hu, hv⟩ := hr
            subst hu
            exact fin { fr with rcv := .taken } v v' (.panicking [{ v := v', recovered := true }]) rfl rfl hv ⟨v', rfl⟩ (fun Q h => unf Q (some (v', { c₀ with mode := .panicking [{ v := v', recovered := true }] } :: cs)) rfl h)
        | call f args =>
          rw [hop] at step
          simp only at step ⊢
          cases hc : call f args s with
          | fail _ => trivial
          | ret v s' => rw [hc] at step; exact go _ _ (Fr.put_rcv _ _ _) (fun Q K h => step K Q h)
          | panic v s' => rw [hc] at step; exact pan v s' (fun Q K h => step K Q h)
        | fail _ => trivial

theorem execD_sound {ks : EC → List Bool} (hL : LowOK P L) (hcall : CallOK P L call) (hdraw : DrawSound P L call) : ∀ (n : Nat) (c : Code) (ec : EC) (fr : Fr) (s : St) (a : Act) (w : World) (G : Gh) (c₀ : Frame) (cs : List Frame) (u : FrameMode), lowCode L ks c = some ec →
    RcvRel G fr.rcv u → Inv G s w → GlOK L G → FrOK G fr a → OutOKS G s w c₀ cs (fun Q => c.wpS P Q a ({ c₀ with mode := u } :: cs) w) (execD (rtOf P) call n ec fr s)
  | 0, c, ec, fr, s, a, w, G, c₀, cs, u, h, hr, hi, hg, hf => trivial
  | n + 1, c, ec, fr, s, a, w, G, c₀, cs, u, h, hr, hi, hg, hf => by
    have ih := execD_sound (ks := ks) hL hcall hdraw n
    -- what needs no 'recover'
    have rest : OutOKS G s w c₀ cs (fun Q => c.wpS P Q a ({ c₀ with mode := u } :: cs) w) (match exec (rtOf P) call n ec { fr with rcv := .off } s with
        | .ok e fr' s => .ok e { fr' with rcv := fr.rcv } s
        | o => o) := by
      have hs := (exec_sound hL hcall hdraw n { fr with rcv := .off } s a w G rfl hi hg ⟨hf.tm, hf.len, hf.defs⟩).1 ks c ec h
      cases he : exec (rtOf P) call n ec { fr with rcv := .off } s with
      | fail _ => trivial
      | ok e fr' s' =>
        rw [he] at hs
        intro Q hQ
        refine wpS_of_wp (hs _ (fun e' a' w' hx => hQ _ _ _ _ ?_))
        obtain ⟨G', k1, k2, k3⟩ := hx
        exact ⟨G', u, k1, ⟨k2.tm, k2.len, k2.defs⟩, k3, rfl, hr.mono k1.le⟩
    cases c with
    | region id ops b =>
      cases b with
      | false =>
        simp only [lowCode, Option.map_eq_some_iff] at h
        obtain ⟨es, h1, rfl⟩ := h
        simp only [execD]
        have := ops_soundS hL hcall ops.toList es 0 fr s a w G c₀ cs u (fun j => by simp) h1 hr hi hg hf
        cases he : execOps (rtOf P) call es fr s with
        | fail _ => trivial
        | ok e fr' s' =>
          rw [he] at this
          intro Q hQ
          refine wpS_region ?_
          have h2 := this Q hQ
          rw [Array.length_toList] at h2
          rw [List.range_eq_range']
          exact h2
      | true =>
        simp only [lowCode, Option.map_eq_some_iff] at h
        obtain ⟨es, h1, rfl⟩ := h
        exact rest
    | seq x y =>
      simp only [lowCode] at h
      cases h1 : lowCode L ks x with
      | none => simp [h1] at h
      | some ex =>
        cases h2 : lowCode L ks y with
        | none => simp [h1, h2] at h
        | some ey =>
          simp only [h1, h2, Option.some.injEq] at h
          subst h
          have i1 := ih x ex fr s a w G c₀ cs u h1 hr hi hg hf
          simp only [execD]
          cases he : execD (rtOf P) call n ex fr s with
          | fail _ => trivial
          | ok e fr1 s1 =>
            rw [he] at i1
            have thru : e ≠ .normal → OutOKS G s w c₀ cs (fun Q => (Code.seq x y).wpS P Q a ({ c₀ with mode := u } :: cs) w) (.ok e fr1 s1) := by
              intro hne Q hQ
              refine wpS_seq (i1 _ (fun e' a' cs' w' hx => ?_))
              have : e' ≠ .normal := by
                obtain ⟨G', u', _, _, hrel, _⟩ := hx
                intro h0; exact hne ((ex_exit hrel).2 h0)
              cases e' <;> first | exact absurd rfl this | exact hQ _ _ _ _ hx
            cases e with
            | normal =>
              simp only
              cases he2 : execD (rtOf P) call n ey fr1 s1 with
              | fail _ => trivial
              | ok e2 fr2 s2 =>
                intro Q hQ
                refine wpS_seq (i1 _ (fun e' a' cs' w' hx => ?_))
                obtain ⟨G', u', hp, hf', hrel, hcs, hr'⟩ := hx
                cases hrel
                subst hcs
                have i2 := ih y ey fr1 s1 a' w' G' c₀ cs u' h2 hr' hp.inv (hg.mono hp.le) hf'
                rw [he2] at i2
                exact i2 Q (fun e3 a3 cs3 w3 h3 => hQ _ _ _ _ (ExPostS.trans (u := c₀.mode) hi hp h3))
            | exit i => exact thru (by simp)
            | goto i => exact thru (by simp)
            | ret => exact thru (by simp)
            | panic i => exact thru (by simp)
    | cond x y z =>
      simp only [lowCode] at h
      split at h <;> try (cases h; done)
      rename_i ec' ex ey h1 h2 h3
      cases h
      have hv := lowArg_sound (a := a) hg hf.tm h1
      simp only [execD]
      split
      · rename_i t ht
        rw [ht] at hv
        generalize hcv : a.eval x = cv at hv
        cases hv
        have i1 : OutOKS G s w c₀ cs (fun Q => (if t then y else z).wpS P Q a ({ c₀ with mode := u } :: cs) w) (execD (rtOf P) call n (if t then ex else ey) fr s) := by
          cases t
          · exact ih z ey fr s a w G c₀ cs u h3 hr hi hg hf
          · exact ih y ex fr s a w G c₀ cs u h2 hr hi hg hf
        cases he : execD (rtOf P) call n (if t then ex else ey) fr s with
        | fail _ => trivial
        | ok e fr' s' =>
          rw [he] at i1
          exact fun Q hQ => wpS_cond hcv (i1 Q hQ)
      · trivial
    | skip => simp only [lowCode, Option.some.injEq] at h; subst h; exact rest
    | label l => simp only [lowCode, Option.some.injEq] at h; subst h; exact rest
    | exit i => simp only [lowCode, Option.some.injEq] at h; subst h; exact rest
    | goto i => simp only [lowCode, Option.some.injEq] at h; subst h; exact rest
    | ret => simp only [lowCode, Option.some.injEq] at h; subst h; exact rest
    | rangeFunc => simp only [lowCode, Option.some.injEq] at h; subst h; exact rest
    | refuse => simp only [lowCode, Option.some.injEq] at h; subst h; exact rest
    | block id b => simp only [lowCode, Option.map_eq_some_iff] at h; obtain ⟨eb, h1, rfl⟩ := h; exact rest
    | loop b => simp only [lowCode, Option.map_eq_some_iff] at h; obtain ⟨eb, h1, rfl⟩ := h; exact rest
    | scope b => simp only [lowCode, Option.map_eq_some_iff] at h; obtain ⟨eb, h1, rfl⟩ := h; exact rest
end
end GoE

/- Results, the end of a function, whole functions, calls. No condition. -/
namespace GoE
open Go

section
variable {P : Program} {L : Low} {call : FuncId → List AV → St → COut}

def resSem (tm : Array Value) : ResultVar → Sem Value
  | .tmp t => pure (tm.getD t undef)
  | .cell a t => do loadVar t (← asAddr (tm.getD a undef))

theorem results_eq (fn : Func) (tm : Array Value) : results fn tm = (do
    let vs ← fn.results.mapM (resSem tm)
    pure (if h : vs.size = 1 then vs[0] else .tuple vs)) := by
  unfold results
  congr 1

theorem res_one (hL : LowOK P L) {G : Gh} {s : St} {w : World} (hi : Inv G s w) {tmps : List AV} {tm : Array Value} (ht : Tm G tmps tm) {r : ResultVar} {rs : List ResultVar} {er : List ERes} (h : lowRes L (r :: rs) = some er) :
    ∃ e er', er = e :: er' ∧ lowRes L rs = some er' ∧ ∀ v, resV s tmps e = some v → ∃ v', (resSem tm r).run P w = .ok v' w ∧ V G v v' := by
  cases r with
  | tmp t =>
    simp only [lowRes, Option.map_eq_some_iff] at h
    obtain ⟨er', h1, rfl⟩ := h
    refine ⟨_, er', rfl, h1, fun v hv => ?_⟩
    simp only [resV, Option.some.injEq] at hv
    subst hv
    exact ⟨_, rfl, ht t⟩
  | cell a t =>
    simp only [lowRes] at h
    split at h <;> try (cases h; done)
    rename_i ti er' hty h1
    cases h
    obtain ⟨i, hti⟩ := hL.ty t ti hty
    refine ⟨_, er', rfl, h1, fun v hv => ?_⟩
    simp only [resV] at hv
    obtain ⟨cs, g1, g2⟩ := Option.bind_eq_some_iff.1 hv
    have hta := ht a
    obtain ⟨b, o, vs, hp, k1, k2, k3, k4⟩ := loadL_cells hi hta g1
    obtain ⟨v', m1, m2⟩ := loadVar_run (P := P) (w := w) hti k1 k2 k3 k4 g2
    exact ⟨v', by simp only [resSem, hp]; simp [asAddr, m1], m2⟩

theorem res_list (hL : LowOK P L) {G : Gh} {s : St} {w : World} (hi : Inv G s w) {tmps : List AV} {tm : Array Value} (ht : Tm G tmps tm) : ∀ (rs : List ResultVar) (er : List ERes), lowRes L rs = some er → ∀ vs, resList s tmps er = some vs →
    ∃ vs', (rs.mapM (resSem tm)).run P w = .ok vs' w ∧ VL G vs vs'
  | [], er, h, vs, hv => by
    simp only [lowRes, Option.some.injEq] at h
    subst h
    simp only [resList, Option.some.injEq] at hv
    subst hv
    exact ⟨[], by simp, VL.nil G⟩
  | r :: rs, er, h, vs, hv => by
    obtain ⟨e, er', rfl, h1, h2⟩ := res_one hL hi ht h
    simp only [resList] at hv
    cases hx : resV s tmps e with
    | none => simp [hx] at hv
    | some v =>
      cases hy : resList s tmps er' with
      | none => simp [hx, hy] at hv
      | some vs1 =>
        simp only [hx, hy, Option.some.injEq] at hv
        subst hv
        obtain ⟨v', m1, m2⟩ := h2 v hx
        obtain ⟨vs', n1, n2⟩ := res_list hL hi ht rs er' h1 vs1 hy
        refine ⟨v' :: vs', ?_, VL.cons m2 n2⟩
        rw [List.mapM_cons, Sem.run_bind, m1]
        simp [n1]

theorem results_ok (hL : LowOK P L) {G : Gh} {s : St} {w : World} (hi : Inv G s w) {tmps : List AV} {tm : Array Value} (ht : Tm G tmps tm) {fn : Func} {efn : EFn} (h : lowRes L fn.results.toList = some efn.results) {v : AV} (hv : resultsV s efn tmps = some v) :
    ∃ v', (results fn tm).run P w = .ok v' w ∧ V G v v' := by
  unfold resultsV at hv
  cases hl : resList s tmps efn.results with
  | none => simp [hl] at hv
  | some vs =>
    obtain ⟨vs', n1, n2⟩ := res_list hL hi ht fn.results.toList efn.results h vs hl
    have hrun : (results fn tm).run P w = .ok (if h : vs'.toArray.size = 1 then vs'.toArray[0] else .tuple vs'.toArray) w := by
      rw [results_eq, Array.mapM_eq_mapM_toList]
      simp [n1]
    rw [hl] at hv
    match vs, n2, hv with
    | [x], n2, hv =>
      simp only [Option.some.injEq] at hv
      subst hv
      obtain ⟨y, ys, rfl, p1, p2⟩ := n2.cons_inv
      have := p2.nil_inv
      subst this
      exact ⟨y, by rw [hrun]; simp, p1⟩
    | [], n2, hv =>
      simp only [Option.some.injEq] at hv
      subst hv
      have := n2.nil_inv
      subst this
      exact ⟨.tuple #[], by rw [hrun]; simp, .tuple [] #[] rfl (fun i c v h => by simp at h)⟩
    | x :: y :: zs, n2, hv =>
      simp only [Option.some.injEq] at hv
      subst hv
      have hsz : vs'.length = zs.length + 2 := by rw [n2.1]; rfl
      refine ⟨.tuple vs'.toArray, by rw [hrun, dif_neg (by simp; omega)], .tuple _ _ (by simp; omega) (fun i c v hc hv => n2.2 i c v hc (by simpa using hv))⟩

/-- What a function of the evaluator's is in the model. -/
structure FnOK (P : Program) (L : Low) (f : FuncId) (efn : EFn) (fn : Func) : Prop where
  at' : P.funcs[f]? = some fn
  name : fn.name ≠ "runtime.NumGoroutine"
  body : ∃ c ks, fn.body = some c ∧ lowCode L ks c = some efn.body
  res : lowRes L fn.results.toList = some efn.results
  ntmps : fn.ntmps = efn.ntmps

theorem lowFn_ok {f : FuncId} {fn : Func} {efn : EFn} (hf : P.funcs[f]? = some fn) (hn : fn.name ≠ "runtime.NumGoroutine") {ks : EC → List ERes → EC → List Bool} (h : lowFn L ks fn = some efn) : FnOK P L f efn fn := by
  unfold lowFn at h
  split at h <;> try (cases h; done)
  rename_i b hb
  split at h <;> try (cases h; done)
  rename_i rs h2
  split at h <;> try (cases h; done)
  rename_i eb h1
  cases h
  split at h1 <;> try (cases h1; done)
  exact ⟨hf, hn, ⟨b, _, hb, h1⟩, h2, rfl⟩

theorem lowFn0_ok {f : FuncId} {fn : Func} {efn : EFn} (hf : P.funcs[f]? = some fn) (hn : fn.name ≠ "runtime.NumGoroutine") (h : lowFn0 L fn = some efn) : FnOK P L f efn fn := by
  unfold lowFn0 at h
  split at h <;> try (cases h; done)
  rename_i b hb
  split at h <;> try (cases h; done)
  rename_i eb rs h1 h2
  cases h
  exact ⟨hf, hn, ⟨b, _, hb, h1⟩, h2, rfl⟩

def FnsOK (P : Program) (L : Low) (fns : Nat → Option EFn) : Prop := ∀ f efn, fns f = some efn → ∃ fn, FnOK P L f efn fn

theorem callFunc_enter {f : FuncId} {efn : EFn} {fn : Func} (h : FnOK P L f efn fn) (args : Array Value) (w : World) : (callFunc f args).run P w = .ok (.enter f args) w := by
  obtain ⟨c, _, hb, _⟩ := h.body
  have hn : (fn.name == "runtime.NumGoroutine") = false := by simpa using h.name
  simp [callFunc, h.at', h.name, hb]

theorem enter_ok {G : Gh} {efn : EFn} {fn : Func} (hn : fn.ntmps = efn.ntmps) {args : List AV} {args' : Array Value} (h : VL G args args'.toList) (rcv : RecMode) :
    FrOK G (efn.enter args rcv) { tmps := args' ++ Array.replicate (fn.ntmps - args'.size) undef, defers := [] } := by
  have hl : args'.size = args.length := by simpa using h.1
  refine ⟨fun t => ?_, ?_, .nil⟩
  · simp only [EFn.enter, tget_eq, Array.getD_eq_getD_getElem?]
    by_cases ht : t < args.length
    · rw [List.getElem?_append_left ht, Array.getElem?_append_left (by omega)]
      have : args'[t]? = some (args'[t]'(by omega)) := Array.getElem?_eq_getElem (by omega)
      rw [this, List.getElem?_eq_getElem ht]
      exact h.2 t _ _ (List.getElem?_eq_getElem ht) (by simp)
    · rw [List.getElem?_append_right (by omega), Array.getElem?_append_right (by omega)]
      have e1 : ((List.replicate (efn.ntmps - args.length) AV.undef)[t - args.length]?).getD .undef = .undef := by
        rw [List.getElem?_replicate]; split <;> rfl
      have e2 : ((Array.replicate (fn.ntmps - args'.size) undef)[t - args'.size]?).getD undef = undef := by
        rw [Array.getElem?_replicate]; split <;> rfl
      rw [e1, e2]
      exact .undef
  · simp [EFn.enter, hl, hn]

/-- How a function's end stands. -/
def EndRel (G : Gh) : Option AV → FrameMode → Prop
  | none, u => u = .returning
  | some v, u => ∃ v', u = .panicking [{ v := v', recovered := false }] ∧ V G v v'

def EndOK (G : Gh) (s : St) (w : World) (W : (Ending → World → Prop) → Prop) : COut → Prop
  | .ret v s' => ∀ R : Ending → World → Prop, (∀ e w', RetPost G s w v s' e w' → R e w') → W R
  | .panic v s' => ∀ R : Ending → World → Prop, (∀ e w', PanPost G s w v s' e w' → R e w') → W R
  | .fail _ => True

theorem EndOK.mono {G1 G2 : Gh} {s1 s2 : St} {w1 w2 : World} (hi : Inv G1 s1 w1) (hp : Post G1 s1 w1 G2 s2 w2) {W1 W2 : (Ending → World → Prop) → Prop} (hW : ∀ R, W2 R → W1 R) {c : COut} (h : EndOK G2 s2 w2 W2 c) : EndOK G1 s1 w1 W1 c := by
  cases c with
  | fail _ => trivial
  | ret v s' =>
    exact fun R hR => hW R (h R fun e w' he => hR e w' (by
      cases e with
      | returned v' => obtain ⟨G', k1, k2⟩ := he; exact ⟨G', hp.trans hi k1, k2⟩
      | _ => exact he.elim))
  | panic v s' =>
    exact fun R hR => hW R (h R fun e w' he => hR e w' (by
      cases e with
      | panicked ch => obtain ⟨v', G', k0, k1, k2⟩ := he; exact ⟨v', G', k0, hp.trans hi k1, k2⟩
      | _ => exact he.elim))

theorem execOps_rcv2 (R : Rt) (call : FuncId → List AV → St → COut) : ∀ (es : List EOp) (fr : Fr) (s : St) (e : EExit) (fr' : Fr) (s' : St), execOps R call es fr s = .ok e fr' s' → fr'.rcv = .taken ∨ fr'.rcv = fr.rcv
  | [], fr, s, e, fr', s', h => by simp only [execOps] at h; cases h; exact .inr rfl
  | o :: es, fr, s, e, fr', s', h => by
    have put : ∀ (fr1 : Fr) (v : AV) (s1 : St), fr1.rcv = fr.rcv → execOps R call es (fr1.put o.dst v) s1 = .ok e fr' s' → fr'.rcv = .taken ∨ fr'.rcv = fr.rcv := fun fr1 v s1 h1 h2 => by
      have := execOps_rcv2 R call es _ _ e fr' s' h2
      rwa [Fr.put_rcv, h1] at this
    simp only [execOps] at h
    split at h
    · cases h
    · exact put _ _ _ rfl h
    · split at h
      · exact put _ _ _ rfl h
      · exact put _ _ _ rfl h
      · exact put _ _ _ rfl h
      · cases h; exact .inr rfl
      · refine put _ _ _ ?_ h
        rfl
      · split at h
        · cases h
        · have := execOps_rcv2 R call es _ _ e fr' s' h
          rw [Fr.put_rcv] at this
          exact .inl (this.elim id id)
        · exact put _ _ _ rfl h
      · split at h
        · exact put _ _ _ rfl h
        · cases h; exact .inr rfl
        · cases h
      · cases h

theorem execD_rcv (R : Rt) (call : FuncId → List AV → St → COut) : ∀ (n : Nat) (c : EC) (fr : Fr) (s : St) (e : EExit) (fr' : Fr) (s' : St), execD R call n c fr s = .ok e fr' s' → fr'.rcv = .taken ∨ fr'.rcv = fr.rcv
  | 0, c, fr, s, e, fr', s', h => by cases h
  | n + 1, c, fr, s, e, fr', s', h => by
    have ih := execD_rcv R call n
    have rest : (match exec R call n c { fr with rcv := .off } s with
        | .ok e fr' s => Out.ok e { fr' with rcv := fr.rcv } s
        | o => o) = .ok e fr' s' → fr'.rcv = .taken ∨ fr'.rcv = fr.rcv := fun h => by
      split at h
      · cases h; exact .inr rfl
      · rename_i hne
        exact (hne _ _ _ h).elim
    cases c with
    | ops l => exact execOps_rcv2 R call l fr s e fr' s' h
    | seq x y =>
      simp only [execD] at h
      split at h
      · rename_i fr1 s1 h1
        have a1 := ih x fr s _ _ _ h1
        have a2 := ih y fr1 s1 e fr' s' h
        rcases a2 with a2 | a2
        · exact .inl a2
        · rw [a2]; exact a1
      · exact ih x fr s e fr' s' h
    | cond x y z =>
      simp only [execD] at h
      split at h
      · exact ih _ fr s e fr' s' h
      · cases h
    | _ => exact rest h

theorem leave_fail {R : Rt} {call : FuncId → List AV → St → COut} {fuel : Nat} {fns : Nat → Option EFn} {fn : EFn} {tmps : List AV} {f : AV} {args : List AV} {ds : List (AV × List AV)} {m : Option AV} {s : St}
    (h : ¬ ∃ g first cap, f = .func (.func g) first cap) : ∃ why, leave R call fuel fns fn tmps ((f, args) :: ds) m s = .fail why := by
  cases f <;> first
    | exact ⟨_, rfl⟩
    | (rename_i fv a b; cases fv <;> first | exact ⟨_, rfl⟩ | exact absurd ⟨_, _, _, rfl⟩ h)

theorem leave_sound (hL : LowOK P L) (hcall : CallOK P L call) (hdraw : DrawSound P L call) {fns : Nat → Option EFn} (hfns : FnsOK P L fns) {fn : Func} {efn : EFn} (hres : lowRes L fn.results.toList = some efn.results) (fuel : Nat) :
    ∀ (ds : List (AV × List AV)) (ds' : List Deferred) (m : Option AV) (u : FrameMode) (s : St) (w : World) (G : Gh) (tmps : List AV) (tm : Array Value), Inv G s w → GlOK L G → Tm G tmps tm → Defs G ds ds' → EndRel G m u →
    EndOK G s w (fun R => Leaves P fn tm R ds' u w) (leave (rtOf P) call fuel fns efn tmps ds m s)
  | [], ds', m, u, s, w, G, tmps, tm, hi, hg, ht, hds, hm => by
    cases hds
    cases m with
    | none =>
      have hu : u = .returning := hm
      subst hu
      simp only [leave]
      cases hv : resultsV s efn tmps with
      | none => trivial
      | some v =>
        obtain ⟨v', h1, h2⟩ := results_ok hL hi ht hres hv
        exact fun R hR => ⟨v', h1, hR _ _ ⟨G, Post.refl hi, h2⟩⟩
    | some v =>
      obtain ⟨v', hu, hv⟩ := hm
      subst hu
      simp only [leave]
      exact fun R hR => hR _ _ ⟨v', G, rfl, Post.refl hi, hv⟩
  | (f, args) :: ds, ds', m, u, s, w, G, tmps, tm, hi, hg, ht, hds, hm => by
    cases hds with
    | @cons _ d _ ds2 hd hds =>
    by_cases hfun : ∃ g first cap, f = .func (.func g) first cap
    case neg =>
      obtain ⟨why, hwhy⟩ := leave_fail (R := rtOf P) (call := call) (fuel := fuel) (fns := fns) (fn := efn) (tmps := tmps) (args := args) (ds := ds) (m := m) (s := s) hfun
      rw [hwhy]
      trivial
    obtain ⟨g, first, cap, rfl⟩ := hfun
    simp only [leave]
    have hu : u ≠ .run := by
      intro h0
      subst h0
      cases m with
      | none => cases hm
      | some v => obtain ⟨_, h1, _⟩ := hm; cases h1
    cases hfg : fns g with
    | none => simp only; trivial
    | some gfn =>
      obtain ⟨fn2, hfn2⟩ := hfns g gfn hfg
      obtain ⟨c', t1, t2, t3⟩ := hd (.func g) first cap rfl
      obtain ⟨tgt, dargs⟩ := d
      simp only at t1 t3
      subst t1
      obtain ⟨c, ks, hb, hlow⟩ := hfn2.body
      have hvl : VL G (first ++ args ++ cap) (dargs ++ c').toList := by rw [Array.toList_append]; exact t3.append t2
      have hent := enter_ok (G := G) hfn2.ntmps hvl (rcvOf m)
      have hrcv : RcvRel G (rcvOf m) u := by
        cases m with
        | none => exact hm
        | some v => exact hm
      simp only
      have hbody := fun (c₀ : Frame) (cs : List Frame) => execD_sound hL hcall hdraw fuel c gfn.body (gfn.enter (first ++ args ++ cap) (rcvOf m)) s _ w G c₀ cs u hlow hrcv hi hg hent
      -- how the deferred function ends, and what stands behind it
      have fin : ∀ (e : EExit) (fr : Fr) (s1 : St), e = .normal ∨ e = .ret → fr.defers = [] → (∃ v, resultsV s1 gfn fr.tmps = some v) →
          execD (rtOf P) call fuel gfn.body (gfn.enter (first ++ args ++ cap) (rcvOf m)) s = .ok e fr s1 →
          EndOK G s w (fun R => Leaves P fn tm R ({ target := .fn (.func g) c', args := dargs } :: ds2) u w) (leave (rtOf P) call fuel fns efn tmps ds (match fr.rcv with | .taken => none | _ => m) s1) := by
        intro e fr s1 he hdf ⟨rv, hrv⟩ hex
        have ih := fun w' G' u' h1 h2 h3 h4 h5 => leave_sound hL hcall hdraw hfns hres fuel ds ds2 (match fr.rcv with | .taken => none | _ => m) u' s1 w' G' tmps tm h1 h2 h3 h4 h5
        have main : ∀ (R : Ending → World → Prop), (∀ w' G' u', Post G s w G' s1 w' → RcvRel G' fr.rcv u' → Leaves P fn tm R ds2 (settle u') w') → Leaves P fn tm R ({ target := .fn (.func g) c', args := dargs } :: ds2) u w := by
          intro R hR
          refine leaves_cons hu (by simp only [invoke]; exact callFunc_enter hfn2 _ w) (callsD_of_wpS hfn2.at' hb (fun c₀ cs hc₀ => ?_))
          have hb2 := hbody c₀ cs
          rw [hex] at hb2
          have hc0 : ({ c₀ with mode := u } : Frame) = c₀ := by subst hc₀; rfl
          rw [hc0] at hb2
          refine hb2 _ (fun e' a' cs' w' hx => ?_)
          obtain ⟨G', u', k1, k2, k3, k4, k5⟩ := hx
          have hd0 : a'.defers = [] := by
            have := k2.defs
            rw [hdf] at this
            generalize a'.defers = x at this ⊢
            cases this
            rfl
          obtain ⟨v', r1, _⟩ := results_ok hL k1.inv k2.tm hfn2.res hrv
          have hL' := hR w' G' u' k1 k5
          rcases he with rfl | rfl
          · cases k3
            exact ⟨hd0, u', k4, v', r1, hL'⟩
          · cases k3
            exact ⟨hd0, u', k4, v', r1, hL'⟩
        -- the mode that is left
        have endr : ∀ (G' : Gh) (u' : FrameMode), G.le G' → RcvRel G' fr.rcv u' → (fr.rcv = .taken ∨ (∀ v, fr.rcv = .avail v → m = some v) ∧ (fr.rcv = .none → m = none)) → EndRel G' (match fr.rcv with | .taken => none | _ => m) (settle u') := by
          intro G' u' hle hr hcase
          cases hrv : fr.rcv with
          | off => rw [hrv] at hr; exact hr.elim
          | taken => rw [hrv] at hr; obtain ⟨v', rfl⟩ := hr; rfl
          | none =>
            rw [hrv] at hr hcase
            have : u' = .returning := hr
            subst this
            rcases hcase with h | h
            · cases h
            · rw [h.2 rfl]; rfl
          | avail v =>
            rw [hrv] at hr hcase
            obtain ⟨v', rfl, hv⟩ := hr
            rcases hcase with h | h
            · cases h
            · rw [h.1 v rfl]; exact ⟨v', rfl, hv⟩
        have hcase : fr.rcv = .taken ∨ (∀ v, fr.rcv = .avail v → m = some v) ∧ (fr.rcv = .none → m = none) := by
          rcases execD_rcv _ _ _ _ _ _ _ _ _ hex with h | h
          · exact .inl h
          · refine .inr ⟨fun v hv => ?_, fun hv => ?_⟩
            · rw [h] at hv
              cases m <;> simp [EFn.enter, rcvOf] at hv
              rw [hv]
            · rw [h] at hv
              cases m <;> simp [EFn.enter, rcvOf] at hv
              rfl
        cases hl : leave (rtOf P) call fuel fns efn tmps ds (match fr.rcv with | .taken => none | _ => m) s1 with
        | fail _ => trivial
        | ret v s' =>
          intro R hR
          refine main R (fun w' G' u' k1 k5 => ?_)
          have := ih w' G' (settle u') k1.inv (hg.mono k1.le) (ht.mono k1.le) (hds.mono k1.le) (endr G' u' k1.le k5 hcase)
          rw [hl] at this
          exact EndOK.mono (W1 := fun R => Leaves P fn tm R ds2 (settle u') w') hi k1 (fun _ h => h) this R hR
        | panic v s' =>
          intro R hR
          refine main R (fun w' G' u' k1 k5 => ?_)
          have := ih w' G' (settle u') k1.inv (hg.mono k1.le) (ht.mono k1.le) (hds.mono k1.le) (endr G' u' k1.le k5 hcase)
          rw [hl] at this
          exact EndOK.mono (W1 := fun R => Leaves P fn tm R ds2 (settle u') w') hi k1 (fun _ h => h) this R hR
      cases hex : execD (rtOf P) call fuel gfn.body (gfn.enter (first ++ args ++ cap) (rcvOf m)) s with
      | fail _ => trivial
      | ok e fr s1 =>
        have two : e = .normal ∨ e = .ret → EndOK G s w (fun R => Leaves P fn tm R ({ target := .fn (.func g) c', args := dargs } :: ds2) u w)
            (if fr.defers.isEmpty then (match resultsV s1 gfn fr.tmps with
              | some _ => leave (rtOf P) call fuel fns efn tmps ds (match fr.rcv with | .taken => none | _ => m) s1
              | none => .fail "deferred results") else .fail "deferred defers") := by
          intro he
          split
          · rename_i hdf
            split
            · rename_i rv hrv
              exact fin e fr s1 he (by simpa using hdf) ⟨rv, hrv⟩ hex
            · trivial
          · trivial
        cases e with
        | normal => exact two (.inl rfl)
        | ret => exact two (.inr rfl)
        | exit i => trivial
        | goto l => trivial
        | panic v => trivial

/-- One function, run by the evaluator. -/
theorem runFn_sound (hL : LowOK P L) (hcall : CallOK P L call) (hdraw : DrawSound P L call) {fns : Nat → Option EFn} (hfns : FnsOK P L fns) {f : FuncId} {fn : Func} {efn : EFn} (hfn : FnOK P L f efn fn) (fuel : Nat)
    {G : Gh} {s : St} {w : World} {args : List AV} {args' : Array Value} (hi : Inv G s w) (hg : GlOK L G) (hv : VL G args args'.toList) :
    EndOK G s w (fun R => Calls P f args' w R) (runFn (rtOf P) call fuel fns efn args s) := by
  obtain ⟨c, ks, hb, hlow⟩ := hfn.body
  have hent := enter_ok (G := G) hfn.ntmps hv .off
  have hbody := (exec_sound hL hcall hdraw fuel (efn.enter args .off) s _ w G rfl hi hg hent).1 ks c efn.body hlow
  unfold runFn
  cases hex : exec (rtOf P) call fuel efn.body (efn.enter args .off) s with
  | fail _ => trivial
  | ok e fr s1 =>
    rw [hex] at hbody
    have main : ∀ (m : Option AV), (m = none ∧ (e = .normal ∨ e = .ret)) ∨ (∃ v, m = some v ∧ e = .panic v) → EndOK G s w (fun R => Calls P f args' w R) (leave (rtOf P) call fuel fns efn fr.tmps fr.defers m s1) := by
      intro m hm
      have go : ∀ R : Ending → World → Prop, (∀ G' a' w' u, Post G s w G' s1 w' → FrOK G' fr a' → EndRel G' m u → Leaves P fn a'.tmps R a'.defers u w') → Calls P f args' w R := by
        intro R hR
        refine calls_of_wp_defers hfn.at' hb (hbody _ (fun e' a' w' hx => ?_))
        obtain ⟨G', k1, k2, k3⟩ := hx
        rcases hm with ⟨rfl, rfl | rfl⟩ | ⟨v, rfl, rfl⟩
        · cases k3; exact hR G' a' w' .returning k1 k2 rfl
        · cases k3; exact hR G' a' w' .returning k1 k2 rfl
        · cases k3 with
          | panic v v' hv => exact hR G' a' w' _ k1 k2 ⟨v', rfl, hv⟩
      have ls := fun G' a' w' u (k1 : Post G s w G' s1 w') (k2 : FrOK G' fr a') (k3 : EndRel G' m u) =>
        leave_sound hL hcall hdraw hfns hfn.res fuel fr.defers a'.defers m u s1 w' G' fr.tmps a'.tmps k1.inv (hg.mono k1.le) k2.tm k2.defs k3
      cases hl : leave (rtOf P) call fuel fns efn fr.tmps fr.defers m s1 with
      | fail _ => trivial
      | ret v s' =>
        intro R hR
        refine go R (fun G' a' w' u k1 k2 k3 => ?_)
        have := ls G' a' w' u k1 k2 k3
        rw [hl] at this
        exact EndOK.mono (W1 := fun R => Leaves P fn a'.tmps R a'.defers u w') hi k1 (fun _ h => h) this R hR
      | panic v s' =>
        intro R hR
        refine go R (fun G' a' w' u k1 k2 k3 => ?_)
        have := ls G' a' w' u k1 k2 k3
        rw [hl] at this
        exact EndOK.mono (W1 := fun R => Leaves P fn a'.tmps R a'.defers u w') hi k1 (fun _ h => h) this R hR
    cases e with
    | normal => exact main none (.inl ⟨rfl, .inl rfl⟩)
    | ret => exact main none (.inl ⟨rfl, .inr rfl⟩)
    | panic v => exact main (some v) (.inr ⟨v, rfl, rfl⟩)
    | exit i => trivial
    | goto l => trivial
end

/-! Calls. -/

def PrimOK (P : Program) (L : Low) (f : FuncId) (p : List AV → St → COut) : Prop :=
  ∀ (args : List AV) (s : St) (G : Gh) (w : World) (args' : Array Value), Inv G s w → GlOK L G → VL G args args'.toList → COutOK P f args' G s w (p args s)

structure ProgOK (P : Program) (L : Low) (X : EProg) : Prop where
  low : LowOK P L
  rt : X.rt = rtOf P
  fns : FnsOK P L X.fn
  prims : ∀ f p, X.prim f = some p → PrimOK P L f p

theorem callN_sound {P : Program} {L : Low} {X : EProg} (h : ProgOK P L X) (hdraw : ∀ call, CallOK P L call → DrawSound P L call) : ∀ n, CallOK P L (callN X n)
  | 0 => fun f args s G w args' _ _ _ => trivial
  | n + 1 => fun f args s G w args' hi hg hv => by
    simp only [callN]
    cases hp : X.prim f with
    | some p => exact h.prims f p hp args s G w args' hi hg hv
    | none =>
      simp only
      cases hf : X.fn f with
      | none => trivial
      | some efn =>
        simp only
        obtain ⟨fn, hfn⟩ := h.fns f efn hf
        have ih := callN_sound h hdraw n
        have := runFn_sound h.low ih (hdraw _ ih) h.fns hfn n hi hg hv
        rw [h.rt]
        cases hr : runFn (rtOf P) (callN X n) n X.fn efn args s with
        | fail _ => trivial
        | ret v s' =>
          rw [hr] at this
          simp only [COutOK, callFunc_enter hfn, Leads]
          exact this _ (fun _ _ h => h)
        | panic v s' =>
          rw [hr] at this
          simp only [COutOK, callFunc_enter hfn, Leads]
          exact this _ (fun _ _ h => h)
end GoE

/- What an operation of the evaluator's looks at: its slots, and memory or not. No condition. -/
namespace GoE
open Go

theorem ev_congr {tmps tmps' : List AV} {x : EArg} (h : ∀ t ∈ namesOf.one x, tget tmps t = tget tmps' t) : x.ev tmps = x.ev tmps' := by
  cases x with
  | t i => exact h i (by simp [namesOf.one])
  | k v => rfl

theorem evs_congr {tmps tmps' : List AV} {xs : List EArg} (h : ∀ t ∈ xs.flatMap namesOf.one, tget tmps t = tget tmps' t) : xs.map (EArg.ev tmps) = xs.map (EArg.ev tmps') := by
  refine List.map_congr_left fun x hx => ev_congr fun t ht => h t (List.mem_flatMap.2 ⟨x, hx, ht⟩)

theorem parts_congr {tmps tmps' : List AV} {ps : List (Nat × Nat × EArg)} (h : ∀ t ∈ ps.flatMap (fun p => namesOf.one p.2.2), tget tmps t = tget tmps' t) :
    (ps.map fun (o, n, x) => (o, n, x.ev tmps)) = ps.map fun (o, n, x) => (o, n, x.ev tmps') := by
  refine List.map_congr_left fun p hp => ?_
  obtain ⟨o, n, x⟩ := p
  simp only [ev_congr (x := x) fun t ht => h t (List.mem_flatMap.2 ⟨(o, n, x), hp, ht⟩)]

theorem bnd_congr {tmps tmps' : List AV} {x : Option EArg} (h : ∀ t ∈ namesOf.opt x, tget tmps t = tget tmps' t) (d : Int) : bnd x tmps d = bnd x tmps' d := by
  cases x with
  | none => rfl
  | some x => simp only [bnd, ev_congr (x := x) h]

/-- An operation asks only for the slots that it names. -/
theorem opV_congr (R : Rt) {tmps tmps' : List AV} (s : St) (k : EK) (h : ∀ t ∈ namesOf.argsOf k, tget tmps t = tget tmps' t) : opV R tmps s k = opV R tmps' s k := by
  have one : ∀ {x : EArg}, (∀ t ∈ namesOf.one x, t ∈ namesOf.argsOf k) → x.ev tmps = x.ev tmps' := fun hx => ev_congr fun t ht => h t (hx t ht)
  have lst : ∀ {xs : List EArg}, (∀ t ∈ xs.flatMap namesOf.one, t ∈ namesOf.argsOf k) → xs.map (EArg.ev tmps) = xs.map (EArg.ev tmps') := fun hx => evs_congr fun t ht => h t (hx t ht)
  have prt : ∀ {ps : List (Nat × Nat × EArg)}, (∀ t ∈ ps.flatMap (fun p => namesOf.one p.2.2), t ∈ namesOf.argsOf k) → (ps.map fun (o, n, x) => (o, n, x.ev tmps)) = ps.map fun (o, n, x) => (o, n, x.ev tmps') :=
    fun hx => parts_congr fun t ht => h t (hx t ht)
  have opt : ∀ {x : Option EArg}, (∀ t ∈ namesOf.opt x, t ∈ namesOf.argsOf k) → ∀ d, bnd x tmps d = bnd x tmps' d := fun hx d => bnd_congr (fun t ht => h t (hx t ht)) d
  cases k
  case slV sz x lo hi mx =>
    have e1 := one (x := x) (by intro t ht; simp [namesOf.argsOf, ht])
    have e2 := opt (x := lo) (by intro t ht; simp [namesOf.argsOf, ht])
    have e3 := opt (x := hi) (by intro t ht; simp [namesOf.argsOf, ht])
    have e4 := opt (x := mx) (by intro t ht; simp [namesOf.argsOf, ht])
    cases mx with
    | none => simp only [opV, e1, e2, e3, e4]
    | some m =>
      have e5 := one (x := m) (by intro t ht; simp [namesOf.argsOf, namesOf.opt, ht])
      simp only [opV, e1, e2, e3, e4, e5]
  case mov x =>
    have e_x := one (x := x) (by intro t ht; simp only [namesOf.argsOf]; first | exact ht | exact .inl ht | exact .inr ht | exact .inl (.inl ht) | exact .inl (.inr ht) | exact .inr (.inl ht) | exact .inr (.inr ht) | exact .inl (.inl (.inl ht)) | exact .inl (.inl (.inr ht)))
    simp only [opV, e_x]
  case pick c a b =>
    have e_c := one (x := c) (by intro t ht; simp only [namesOf.argsOf, List.mem_append]; first | exact ht | exact .inl ht | exact .inr ht | exact .inl (.inl ht) | exact .inl (.inr ht) | exact .inr (.inl ht) | exact .inr (.inr ht) | exact .inl (.inl (.inl ht)) | exact .inl (.inl (.inr ht)))
    have e_a := one (x := a) (by intro t ht; simp only [namesOf.argsOf, List.mem_append]; first | exact ht | exact .inl ht | exact .inr ht | exact .inl (.inl ht) | exact .inl (.inr ht) | exact .inr (.inl ht) | exact .inr (.inr ht) | exact .inl (.inl (.inl ht)) | exact .inl (.inl (.inr ht)))
    have e_b := one (x := b) (by intro t ht; simp only [namesOf.argsOf, List.mem_append]; first | exact ht | exact .inl ht | exact .inr ht | exact .inl (.inl ht) | exact .inl (.inr ht) | exact .inr (.inl ht) | exact .inr (.inr ht) | exact .inl (.inl (.inl ht)) | exact .inl (.inl (.inr ht)))
    simp only [opV, e_c, e_a, e_b]
  case alloc e z =>
    rfl
  case box e x =>
    have e_x := one (x := x) (by intro t ht; simp only [namesOf.argsOf]; first | exact ht | exact .inl ht | exact .inr ht | exact .inl (.inl ht) | exact .inl (.inr ht) | exact .inr (.inl ht) | exact .inr (.inr ht) | exact .inl (.inl (.inl ht)) | exact .inl (.inl (.inr ht)))
    simp only [opV, e_x]
  case build z ps =>
    have e_ps := prt (ps := ps) (by intro t ht; simp only [namesOf.argsOf]; first | exact ht | exact .inl ht | exact .inr ht | exact .inl (.inl ht) | exact .inl (.inr ht) | exact .inr (.inl ht) | exact .inr (.inr ht) | exact .inl (.inl (.inl ht)) | exact .inl (.inl (.inr ht)))
    simp only [opV, e_ps]
  case bsliceV sz agg len z ps =>
    have e_ps := prt (ps := ps) (by intro t ht; simp only [namesOf.argsOf]; first | exact ht | exact .inl ht | exact .inr ht | exact .inl (.inl ht) | exact .inl (.inr ht) | exact .inr (.inl ht) | exact .inr (.inr ht) | exact .inl (.inl (.inl ht)) | exact .inl (.inl (.inr ht)))
    simp only [opV, e_ps]
  case bsliceM e sz len z ps =>
    have e_ps := prt (ps := ps) (by intro t ht; simp only [namesOf.argsOf]; first | exact ht | exact .inl ht | exact .inr ht | exact .inl (.inl ht) | exact .inl (.inr ht) | exact .inr (.inl ht) | exact .inr (.inr ht) | exact .inl (.inl (.inl ht)) | exact .inl (.inl (.inr ht)))
    simp only [opV, e_ps]
  case load sz agg x =>
    have e_x := one (x := x) (by intro t ht; simp only [namesOf.argsOf]; first | exact ht | exact .inl ht | exact .inr ht | exact .inl (.inl ht) | exact .inl (.inr ht) | exact .inr (.inl ht) | exact .inr (.inr ht) | exact .inl (.inl (.inl ht)) | exact .inl (.inl (.inr ht)))
    simp only [opV, e_x]
  case store sz x y =>
    have e_x := one (x := x) (by intro t ht; simp only [namesOf.argsOf, List.mem_append]; first | exact ht | exact .inl ht | exact .inr ht | exact .inl (.inl ht) | exact .inl (.inr ht) | exact .inr (.inl ht) | exact .inr (.inr ht) | exact .inl (.inl (.inl ht)) | exact .inl (.inl (.inr ht)))
    have e_y := one (x := y) (by intro t ht; simp only [namesOf.argsOf, List.mem_append]; first | exact ht | exact .inl ht | exact .inr ht | exact .inl (.inl ht) | exact .inl (.inr ht) | exact .inr (.inl ht) | exact .inr (.inr ht) | exact .inl (.inl (.inl ht)) | exact .inl (.inl (.inr ht)))
    simp only [opV, e_x, e_y]
  case nilc x =>
    have e_x := one (x := x) (by intro t ht; simp only [namesOf.argsOf]; first | exact ht | exact .inl ht | exact .inr ht | exact .inl (.inl ht) | exact .inl (.inr ht) | exact .inr (.inl ht) | exact .inr (.inr ht) | exact .inl (.inl (.inl ht)) | exact .inl (.inl (.inr ht)))
    simp only [opV, e_x]
  case bin op x y =>
    have e_x := one (x := x) (by intro t ht; simp only [namesOf.argsOf, List.mem_append]; first | exact ht | exact .inl ht | exact .inr ht | exact .inl (.inl ht) | exact .inl (.inr ht) | exact .inr (.inl ht) | exact .inr (.inr ht) | exact .inl (.inl (.inl ht)) | exact .inl (.inl (.inr ht)))
    have e_y := one (x := y) (by intro t ht; simp only [namesOf.argsOf, List.mem_append]; first | exact ht | exact .inl ht | exact .inr ht | exact .inl (.inl ht) | exact .inl (.inr ht) | exact .inr (.inl ht) | exact .inr (.inr ht) | exact .inl (.inl (.inl ht)) | exact .inl (.inl (.inr ht)))
    simp only [opV, e_x, e_y]
  case eq neg t x y =>
    have e_x := one (x := x) (by intro t ht; simp only [namesOf.argsOf, List.mem_append]; first | exact ht | exact .inl ht | exact .inr ht | exact .inl (.inl ht) | exact .inl (.inr ht) | exact .inr (.inl ht) | exact .inr (.inr ht) | exact .inl (.inl (.inl ht)) | exact .inl (.inl (.inr ht)))
    have e_y := one (x := y) (by intro t ht; simp only [namesOf.argsOf, List.mem_append]; first | exact ht | exact .inl ht | exact .inr ht | exact .inl (.inl ht) | exact .inl (.inr ht) | exact .inr (.inl ht) | exact .inr (.inr ht) | exact .inl (.inl (.inl ht)) | exact .inl (.inl (.inr ht)))
    simp only [opV, e_x, e_y]
  case un op x =>
    have e_x := one (x := x) (by intro t ht; simp only [namesOf.argsOf]; first | exact ht | exact .inl ht | exact .inr ht | exact .inl (.inl ht) | exact .inl (.inr ht) | exact .inr (.inl ht) | exact .inr (.inr ht) | exact .inl (.inl (.inl ht)) | exact .inl (.inl (.inr ht)))
    simp only [opV, e_x]
  case toInt k x =>
    have e_x := one (x := x) (by intro t ht; simp only [namesOf.argsOf]; first | exact ht | exact .inl ht | exact .inr ht | exact .inl (.inl ht) | exact .inl (.inr ht) | exact .inr (.inl ht) | exact .inr (.inr ht) | exact .inl (.inl (.inl ht)) | exact .inl (.inl (.inr ht)))
    simp only [opV, e_x]
  case runeStr x =>
    have e_x := one (x := x) (by intro t ht; simp only [namesOf.argsOf]; first | exact ht | exact .inl ht | exact .inr ht | exact .inl (.inl ht) | exact .inl (.inr ht) | exact .inr (.inl ht) | exact .inr (.inr ht) | exact .inl (.inl (.inl ht)) | exact .inl (.inl (.inr ht)))
    simp only [opV, e_x]
  case strStr x =>
    have e_x := one (x := x) (by intro t ht; simp only [namesOf.argsOf]; first | exact ht | exact .inl ht | exact .inr ht | exact .inl (.inl ht) | exact .inl (.inr ht) | exact .inr (.inl ht) | exact .inr (.inr ht) | exact .inl (.inl (.inl ht)) | exact .inl (.inl (.inr ht)))
    simp only [opV, e_x]
  case strBytes e x =>
    have e_x := one (x := x) (by intro t ht; simp only [namesOf.argsOf]; first | exact ht | exact .inl ht | exact .inr ht | exact .inl (.inl ht) | exact .inl (.inr ht) | exact .inr (.inl ht) | exact .inr (.inr ht) | exact .inl (.inl (.inl ht)) | exact .inl (.inl (.inr ht)))
    simp only [opV, e_x]
  case bytesStr x =>
    have e_x := one (x := x) (by intro t ht; simp only [namesOf.argsOf]; first | exact ht | exact .inl ht | exact .inr ht | exact .inl (.inl ht) | exact .inl (.inr ht) | exact .inr (.inl ht) | exact .inr (.inr ht) | exact .inl (.inl (.inl ht)) | exact .inl (.inl (.inr ht)))
    simp only [opV, e_x]
  case cast l x =>
    have e_x := one (x := x) (by intro t ht; simp only [namesOf.argsOf]; first | exact ht | exact .inl ht | exact .inr ht | exact .inl (.inl ht) | exact .inl (.inr ht) | exact .inr (.inl ht) | exact .inr (.inr ht) | exact .inl (.inl (.inl ht)) | exact .inl (.inl (.inr ht)))
    simp only [opV, e_x]
  case mkI t x =>
    have e_x := one (x := x) (by intro t ht; simp only [namesOf.argsOf]; first | exact ht | exact .inl ht | exact .inr ht | exact .inl (.inl ht) | exact .inl (.inr ht) | exact .inr (.inl ht) | exact .inr (.inr ht) | exact .inl (.inl (.inl ht)) | exact .inl (.inl (.inr ht)))
    simp only [opV, e_x]
  case mkF fn xs ys =>
    have e_xs := lst (xs := xs) (by intro t ht; simp only [namesOf.argsOf, List.mem_append]; first | exact ht | exact .inl ht | exact .inr ht | exact .inl (.inl ht) | exact .inl (.inr ht) | exact .inr (.inl ht) | exact .inr (.inr ht) | exact .inl (.inl (.inl ht)) | exact .inl (.inl (.inr ht)))
    have e_ys := lst (xs := ys) (by intro t ht; simp only [namesOf.argsOf, List.mem_append]; first | exact ht | exact .inl ht | exact .inr ht | exact .inl (.inl ht) | exact .inl (.inr ht) | exact .inr (.inl ht) | exact .inr (.inr ht) | exact .inl (.inl (.inl ht)) | exact .inl (.inl (.inr ht)))
    simp only [opV, e_xs, e_ys]
  case mkM =>
    rfl
  case mkS e sz bytes muty z x y =>
    have e_x := one (x := x) (by intro t ht; simp only [namesOf.argsOf, List.mem_append]; first | exact ht | exact .inl ht | exact .inr ht | exact .inl (.inl ht) | exact .inl (.inr ht) | exact .inr (.inl ht) | exact .inr (.inr ht) | exact .inl (.inl (.inl ht)) | exact .inl (.inl (.inr ht)))
    have e_y := one (x := y) (by intro t ht; simp only [namesOf.argsOf, List.mem_append]; first | exact ht | exact .inl ht | exact .inr ht | exact .inl (.inl ht) | exact .inl (.inr ht) | exact .inr (.inl ht) | exact .inr (.inr ht) | exact .inl (.inl (.inl ht)) | exact .inl (.inl (.inr ht)))
    simp only [opV, e_x, e_y]
  case slS x lo hi =>
    have e_x := one (x := x) (by intro t ht; simp only [namesOf.argsOf, List.mem_append]; first | exact ht | exact .inl ht | exact .inr ht | exact .inl (.inl ht) | exact .inl (.inr ht) | exact .inr (.inl ht) | exact .inr (.inr ht) | exact .inl (.inl (.inl ht)) | exact .inl (.inl (.inr ht)))
    have e_lo := opt (x := lo) (by intro t ht; simp only [namesOf.argsOf, List.mem_append]; first | exact ht | exact .inl ht | exact .inr ht | exact .inl (.inl ht) | exact .inl (.inr ht) | exact .inr (.inl ht) | exact .inr (.inr ht) | exact .inl (.inl (.inl ht)) | exact .inl (.inl (.inr ht)))
    have e_hi := opt (x := hi) (by intro t ht; simp only [namesOf.argsOf, List.mem_append]; first | exact ht | exact .inl ht | exact .inr ht | exact .inl (.inl ht) | exact .inl (.inr ht) | exact .inr (.inl ht) | exact .inr (.inr ht) | exact .inl (.inl (.inl ht)) | exact .inl (.inl (.inr ht)))
    simp only [opV, e_x, e_lo, e_hi]
  case slA n sz x lo hi =>
    have e_x := one (x := x) (by intro t ht; simp only [namesOf.argsOf, List.mem_append]; first | exact ht | exact .inl ht | exact .inr ht | exact .inl (.inl ht) | exact .inl (.inr ht) | exact .inr (.inl ht) | exact .inr (.inr ht) | exact .inl (.inl (.inl ht)) | exact .inl (.inl (.inr ht)))
    have e_lo := opt (x := lo) (by intro t ht; simp only [namesOf.argsOf, List.mem_append]; first | exact ht | exact .inl ht | exact .inr ht | exact .inl (.inl ht) | exact .inl (.inr ht) | exact .inr (.inl ht) | exact .inr (.inr ht) | exact .inl (.inl (.inl ht)) | exact .inl (.inl (.inr ht)))
    have e_hi := opt (x := hi) (by intro t ht; simp only [namesOf.argsOf, List.mem_append]; first | exact ht | exact .inl ht | exact .inr ht | exact .inl (.inl ht) | exact .inl (.inr ht) | exact .inr (.inl ht) | exact .inr (.inr ht) | exact .inl (.inl (.inl ht)) | exact .inl (.inl (.inr ht)))
    simp only [opV, e_x, e_lo, e_hi]
  case addOff off x =>
    have e_x := one (x := x) (by intro t ht; simp only [namesOf.argsOf]; first | exact ht | exact .inl ht | exact .inr ht | exact .inl (.inl ht) | exact .inl (.inr ht) | exact .inr (.inl ht) | exact .inr (.inr ht) | exact .inl (.inl (.inl ht)) | exact .inl (.inl (.inr ht)))
    simp only [opV, e_x]
  case fget off sz agg x =>
    have e_x := one (x := x) (by intro t ht; simp only [namesOf.argsOf]; first | exact ht | exact .inl ht | exact .inr ht | exact .inl (.inl ht) | exact .inl (.inr ht) | exact .inr (.inl ht) | exact .inr (.inr ht) | exact .inl (.inl (.inl ht)) | exact .inl (.inl (.inr ht)))
    simp only [opV, e_x]
  case idxS sz x y =>
    have e_x := one (x := x) (by intro t ht; simp only [namesOf.argsOf, List.mem_append]; first | exact ht | exact .inl ht | exact .inr ht | exact .inl (.inl ht) | exact .inl (.inr ht) | exact .inr (.inl ht) | exact .inr (.inr ht) | exact .inl (.inl (.inl ht)) | exact .inl (.inl (.inr ht)))
    have e_y := one (x := y) (by intro t ht; simp only [namesOf.argsOf, List.mem_append]; first | exact ht | exact .inl ht | exact .inr ht | exact .inl (.inl ht) | exact .inl (.inr ht) | exact .inr (.inl ht) | exact .inr (.inr ht) | exact .inl (.inl (.inl ht)) | exact .inl (.inl (.inr ht)))
    simp only [opV, e_x, e_y]
  case idxA n sz x y =>
    have e_x := one (x := x) (by intro t ht; simp only [namesOf.argsOf, List.mem_append]; first | exact ht | exact .inl ht | exact .inr ht | exact .inl (.inl ht) | exact .inl (.inr ht) | exact .inr (.inl ht) | exact .inr (.inr ht) | exact .inl (.inl (.inl ht)) | exact .inl (.inl (.inr ht)))
    have e_y := one (x := y) (by intro t ht; simp only [namesOf.argsOf, List.mem_append]; first | exact ht | exact .inl ht | exact .inr ht | exact .inl (.inl ht) | exact .inl (.inr ht) | exact .inr (.inl ht) | exact .inr (.inr ht) | exact .inl (.inl (.inl ht)) | exact .inl (.inl (.inr ht)))
    simp only [opV, e_x, e_y]
  case idxStr x y =>
    have e_x := one (x := x) (by intro t ht; simp only [namesOf.argsOf, List.mem_append]; first | exact ht | exact .inl ht | exact .inr ht | exact .inl (.inl ht) | exact .inl (.inr ht) | exact .inr (.inl ht) | exact .inr (.inr ht) | exact .inl (.inl (.inl ht)) | exact .inl (.inl (.inr ht)))
    have e_y := one (x := y) (by intro t ht; simp only [namesOf.argsOf, List.mem_append]; first | exact ht | exact .inl ht | exact .inr ht | exact .inl (.inl ht) | exact .inl (.inr ht) | exact .inr (.inl ht) | exact .inr (.inr ht) | exact .inl (.inl (.inl ht)) | exact .inl (.inl (.inr ht)))
    simp only [opV, e_x, e_y]
  case idxArr n sz agg x y =>
    have e_x := one (x := x) (by intro t ht; simp only [namesOf.argsOf, List.mem_append]; first | exact ht | exact .inl ht | exact .inr ht | exact .inl (.inl ht) | exact .inl (.inr ht) | exact .inr (.inl ht) | exact .inr (.inr ht) | exact .inl (.inl (.inl ht)) | exact .inl (.inl (.inr ht)))
    have e_y := one (x := y) (by intro t ht; simp only [namesOf.argsOf, List.mem_append]; first | exact ht | exact .inl ht | exact .inr ht | exact .inl (.inl ht) | exact .inl (.inr ht) | exact .inr (.inl ht) | exact .inr (.inr ht) | exact .inl (.inl (.inl ht)) | exact .inl (.inl (.inr ht)))
    simp only [opV, e_x, e_y]
  case lookup kt z ok x y =>
    have e_x := one (x := x) (by intro t ht; simp only [namesOf.argsOf, List.mem_append]; first | exact ht | exact .inl ht | exact .inr ht | exact .inl (.inl ht) | exact .inl (.inr ht) | exact .inr (.inl ht) | exact .inr (.inr ht) | exact .inl (.inl (.inl ht)) | exact .inl (.inl (.inr ht)))
    have e_y := one (x := y) (by intro t ht; simp only [namesOf.argsOf, List.mem_append]; first | exact ht | exact .inl ht | exact .inr ht | exact .inl (.inl ht) | exact .inl (.inr ht) | exact .inr (.inl ht) | exact .inr (.inr ht) | exact .inl (.inl (.inl ht)) | exact .inl (.inl (.inr ht)))
    simp only [opV, e_x, e_y]
  case mapUpd kt x y z =>
    have e_x := one (x := x) (by intro t ht; simp only [namesOf.argsOf, List.mem_append]; first | exact ht | exact .inl ht | exact .inr ht | exact .inl (.inl ht) | exact .inl (.inr ht) | exact .inr (.inl ht) | exact .inr (.inr ht) | exact .inl (.inl (.inl ht)) | exact .inl (.inl (.inr ht)))
    have e_y := one (x := y) (by intro t ht; simp only [namesOf.argsOf, List.mem_append]; first | exact ht | exact .inl ht | exact .inr ht | exact .inl (.inl ht) | exact .inl (.inr ht) | exact .inr (.inl ht) | exact .inr (.inr ht) | exact .inl (.inl (.inl ht)) | exact .inl (.inl (.inr ht)))
    have e_z := one (x := z) (by intro t ht; simp only [namesOf.argsOf, List.mem_append]; first | exact ht | exact .inl ht | exact .inr ht | exact .inl (.inl ht) | exact .inl (.inr ht) | exact .inr (.inl ht) | exact .inr (.inr ht) | exact .inl (.inl (.inl ht)) | exact .inl (.inl (.inr ht)))
    simp only [opV, e_x, e_y, e_z]
  case range x =>
    have e_x := one (x := x) (by intro t ht; simp only [namesOf.argsOf]; first | exact ht | exact .inl ht | exact .inr ht | exact .inl (.inl ht) | exact .inl (.inr ht) | exact .inr (.inl ht) | exact .inr (.inr ht) | exact .inl (.inl (.inl ht)) | exact .inl (.inl (.inr ht)))
    simp only [opV, e_x]
  case next x =>
    have e_x := one (x := x) (by intro t ht; simp only [namesOf.argsOf]; first | exact ht | exact .inl ht | exact .inr ht | exact .inl (.inl ht) | exact .inl (.inr ht) | exact .inr (.inl ht) | exact .inr (.inr ht) | exact .inl (.inl (.inl ht)) | exact .inl (.inl (.inr ht)))
    simp only [opV, e_x]
  case assert t z ok x =>
    have e_x := one (x := x) (by intro t ht; simp only [namesOf.argsOf]; first | exact ht | exact .inl ht | exact .inr ht | exact .inl (.inl ht) | exact .inl (.inr ht) | exact .inr (.inl ht) | exact .inr (.inr ht) | exact .inl (.inl (.inl ht)) | exact .inl (.inl (.inr ht)))
    simp only [opV, e_x]
  case extr i x =>
    have e_x := one (x := x) (by intro t ht; simp only [namesOf.argsOf]; first | exact ht | exact .inl ht | exact .inr ht | exact .inl (.inl ht) | exact .inl (.inr ht) | exact .inr (.inl ht) | exact .inr (.inr ht) | exact .inl (.inl (.inl ht)) | exact .inl (.inl (.inr ht)))
    simp only [opV, e_x]
  case lenS x =>
    have e_x := one (x := x) (by intro t ht; simp only [namesOf.argsOf]; first | exact ht | exact .inl ht | exact .inr ht | exact .inl (.inl ht) | exact .inl (.inr ht) | exact .inr (.inl ht) | exact .inr (.inr ht) | exact .inl (.inl (.inl ht)) | exact .inl (.inl (.inr ht)))
    simp only [opV, e_x]
  case len x =>
    have e_x := one (x := x) (by intro t ht; simp only [namesOf.argsOf]; first | exact ht | exact .inl ht | exact .inr ht | exact .inl (.inl ht) | exact .inl (.inr ht) | exact .inr (.inl ht) | exact .inr (.inr ht) | exact .inl (.inl (.inl ht)) | exact .inl (.inl (.inr ht)))
    simp only [opV, e_x]
  case lenM x =>
    have e_x := one (x := x) (by intro t ht; simp only [namesOf.argsOf]; first | exact ht | exact .inl ht | exact .inr ht | exact .inl (.inl ht) | exact .inl (.inr ht) | exact .inr (.inl ht) | exact .inr (.inr ht) | exact .inl (.inl (.inl ht)) | exact .inl (.inl (.inr ht)))
    simp only [opV, e_x]
  case lenK n =>
    rfl
  case cap x =>
    have e_x := one (x := x) (by intro t ht; simp only [namesOf.argsOf]; first | exact ht | exact .inl ht | exact .inr ht | exact .inl (.inl ht) | exact .inl (.inr ht) | exact .inr (.inl ht) | exact .inr (.inr ht) | exact .inl (.inl (.inl ht)) | exact .inl (.inl (.inr ht)))
    simp only [opV, e_x]
  case append e sz bytes agg muty x y =>
    have e_x := one (x := x) (by intro t ht; simp only [namesOf.argsOf, List.mem_append]; first | exact ht | exact .inl ht | exact .inr ht | exact .inl (.inl ht) | exact .inl (.inr ht) | exact .inr (.inl ht) | exact .inr (.inr ht) | exact .inl (.inl (.inl ht)) | exact .inl (.inl (.inr ht)))
    have e_y := one (x := y) (by intro t ht; simp only [namesOf.argsOf, List.mem_append]; first | exact ht | exact .inl ht | exact .inr ht | exact .inl (.inl ht) | exact .inl (.inr ht) | exact .inr (.inl ht) | exact .inr (.inr ht) | exact .inl (.inl (.inl ht)) | exact .inl (.inl (.inr ht)))
    simp only [opV, e_x, e_y]
  case appendStr e bytes x y =>
    have e_x := one (x := x) (by intro t ht; simp only [namesOf.argsOf, List.mem_append]; first | exact ht | exact .inl ht | exact .inr ht | exact .inl (.inl ht) | exact .inl (.inr ht) | exact .inr (.inl ht) | exact .inr (.inr ht) | exact .inl (.inl (.inl ht)) | exact .inl (.inl (.inr ht)))
    have e_y := one (x := y) (by intro t ht; simp only [namesOf.argsOf, List.mem_append]; first | exact ht | exact .inl ht | exact .inr ht | exact .inl (.inl ht) | exact .inl (.inr ht) | exact .inr (.inl ht) | exact .inr (.inr ht) | exact .inl (.inl (.inl ht)) | exact .inl (.inl (.inr ht)))
    simp only [opV, e_x, e_y]
  case copy sz agg x y =>
    have e_x := one (x := x) (by intro t ht; simp only [namesOf.argsOf, List.mem_append]; first | exact ht | exact .inl ht | exact .inr ht | exact .inl (.inl ht) | exact .inl (.inr ht) | exact .inr (.inl ht) | exact .inr (.inr ht) | exact .inl (.inl (.inl ht)) | exact .inl (.inl (.inr ht)))
    have e_y := one (x := y) (by intro t ht; simp only [namesOf.argsOf, List.mem_append]; first | exact ht | exact .inl ht | exact .inr ht | exact .inl (.inl ht) | exact .inl (.inr ht) | exact .inr (.inl ht) | exact .inr (.inr ht) | exact .inl (.inl (.inl ht)) | exact .inl (.inl (.inr ht)))
    simp only [opV, e_x, e_y]
  case copyStr x y =>
    have e_x := one (x := x) (by intro t ht; simp only [namesOf.argsOf, List.mem_append]; first | exact ht | exact .inl ht | exact .inr ht | exact .inl (.inl ht) | exact .inl (.inr ht) | exact .inr (.inl ht) | exact .inr (.inr ht) | exact .inl (.inl (.inl ht)) | exact .inl (.inl (.inr ht)))
    have e_y := one (x := y) (by intro t ht; simp only [namesOf.argsOf, List.mem_append]; first | exact ht | exact .inl ht | exact .inr ht | exact .inl (.inl ht) | exact .inl (.inr ht) | exact .inr (.inl ht) | exact .inr (.inr ht) | exact .inl (.inl (.inl ht)) | exact .inl (.inl (.inr ht)))
    simp only [opV, e_x, e_y]
  case maxmin mx x xs =>
    have e_x := one (x := x) (by intro t ht; simp only [namesOf.argsOf, List.mem_append]; first | exact ht | exact .inl ht | exact .inr ht | exact .inl (.inl ht) | exact .inl (.inr ht) | exact .inr (.inl ht) | exact .inr (.inr ht) | exact .inl (.inl (.inl ht)) | exact .inl (.inl (.inr ht)))
    have e_xs := lst (xs := xs) (by intro t ht; simp only [namesOf.argsOf, List.mem_append]; first | exact ht | exact .inl ht | exact .inr ht | exact .inl (.inl ht) | exact .inl (.inr ht) | exact .inr (.inl ht) | exact .inr (.inr ht) | exact .inl (.inl (.inl ht)) | exact .inl (.inl (.inr ht)))
    simp only [opV, e_x, e_xs]
  case delete kt x y =>
    have e_x := one (x := x) (by intro t ht; simp only [namesOf.argsOf, List.mem_append]; first | exact ht | exact .inl ht | exact .inr ht | exact .inl (.inl ht) | exact .inl (.inr ht) | exact .inr (.inl ht) | exact .inr (.inr ht) | exact .inl (.inl (.inl ht)) | exact .inl (.inl (.inr ht)))
    have e_y := one (x := y) (by intro t ht; simp only [namesOf.argsOf, List.mem_append]; first | exact ht | exact .inl ht | exact .inr ht | exact .inl (.inl ht) | exact .inl (.inr ht) | exact .inr (.inl ht) | exact .inr (.inr ht) | exact .inl (.inl (.inl ht)) | exact .inl (.inl (.inr ht)))
    simp only [opV, e_x, e_y]
  case clear sz z x =>
    have e_x := one (x := x) (by intro t ht; simp only [namesOf.argsOf]; first | exact ht | exact .inl ht | exact .inr ht | exact .inl (.inl ht) | exact .inl (.inr ht) | exact .inr (.inl ht) | exact .inr (.inr ht) | exact .inl (.inl (.inl ht)) | exact .inl (.inl (.inr ht)))
    simp only [opV, e_x]
  case recover =>
    rfl
  case usd x =>
    have e_x := one (x := x) (by intro t ht; simp only [namesOf.argsOf]; first | exact ht | exact .inl ht | exact .inr ht | exact .inl (.inl ht) | exact .inl (.inr ht) | exact .inr (.inl ht) | exact .inr (.inr ht) | exact .inl (.inl (.inl ht)) | exact .inl (.inl (.inr ht)))
    simp only [opV, e_x]
  case us u x y =>
    have e_x := one (x := x) (by intro t ht; simp only [namesOf.argsOf, List.mem_append]; first | exact ht | exact .inl ht | exact .inr ht | exact .inl (.inl ht) | exact .inl (.inr ht) | exact .inr (.inl ht) | exact .inr (.inr ht) | exact .inl (.inl (.inl ht)) | exact .inl (.inl (.inr ht)))
    have e_y := one (x := y) (by intro t ht; simp only [namesOf.argsOf, List.mem_append]; first | exact ht | exact .inl ht | exact .inr ht | exact .inl (.inl ht) | exact .inl (.inr ht) | exact .inr (.inl ht) | exact .inr (.inr ht) | exact .inl (.inl (.inl ht)) | exact .inl (.inl (.inr ht)))
    simp only [opV, e_x, e_y]
  case callf f xs =>
    have e_xs := lst (xs := xs) (by intro t ht; simp only [namesOf.argsOf]; first | exact ht | exact .inl ht | exact .inr ht | exact .inl (.inl ht) | exact .inl (.inr ht) | exact .inr (.inl ht) | exact .inr (.inr ht) | exact .inl (.inl (.inl ht)) | exact .inl (.inl (.inr ht)))
    simp only [opV, e_xs]
  case callv x xs =>
    have e_x := one (x := x) (by intro t ht; simp only [namesOf.argsOf, List.mem_append]; first | exact ht | exact .inl ht | exact .inr ht | exact .inl (.inl ht) | exact .inl (.inr ht) | exact .inr (.inl ht) | exact .inr (.inr ht) | exact .inl (.inl (.inl ht)) | exact .inl (.inl (.inr ht)))
    have e_xs := lst (xs := xs) (by intro t ht; simp only [namesOf.argsOf, List.mem_append]; first | exact ht | exact .inl ht | exact .inr ht | exact .inl (.inl ht) | exact .inl (.inr ht) | exact .inr (.inl ht) | exact .inr (.inr ht) | exact .inl (.inl (.inl ht)) | exact .inl (.inl (.inr ht)))
    simp only [opV, e_x, e_xs]
  case defer x xs =>
    have e_x := one (x := x) (by intro t ht; simp only [namesOf.argsOf, List.mem_append]; first | exact ht | exact .inl ht | exact .inr ht | exact .inl (.inl ht) | exact .inl (.inr ht) | exact .inr (.inl ht) | exact .inr (.inr ht) | exact .inl (.inl (.inl ht)) | exact .inl (.inl (.inr ht)))
    have e_xs := lst (xs := xs) (by intro t ht; simp only [namesOf.argsOf, List.mem_append]; first | exact ht | exact .inl ht | exact .inr ht | exact .inl (.inl ht) | exact .inl (.inr ht) | exact .inr (.inl ht) | exact .inr (.inr ht) | exact .inl (.inl (.inl ht)) | exact .inl (.inl (.inr ht)))
    simp only [opV, e_x, e_xs]
  case panic x =>
    have e_x := one (x := x) (by intro t ht; simp only [namesOf.argsOf]; first | exact ht | exact .inl ht | exact .inr ht | exact .inl (.inl ht) | exact .inl (.inr ht) | exact .inr (.inl ht) | exact .inr (.inr ht) | exact .inl (.inl (.inl ht)) | exact .inl (.inl (.inr ht)))
    simp only [opV, e_x]
  case bad =>
    rfl

/-- What makes no look at memory. -/
theorem opV_state (R : Rt) (tmps : List AV) (s s' : St) (k : EK) (h : k.cls = .p ∨ k.cls = .a) : opV R tmps s k = opV R tmps s' k := by
  cases k <;> first
    | rfl
    | (simp [EK.cls] at h; done)

end GoE

/- A drawn region in its canonical order, as a row of states. No condition. -/
namespace GoE
open Go

def putL (l : List AV) (d : Option Nat) (v : AV) : List AV := match d with | some d => lset l d v | none => l

theorem Fr.put_tmps (fr : Fr) (d : Option Nat) (v : AV) : (fr.put d v).tmps = putL fr.tmps d v := by cases d <;> rfl
theorem Fr.put_defers (fr : Fr) (d : Option Nat) (v : AV) : (fr.put d v).defers = fr.defers := by cases d <;> rfl
theorem putL_length (l : List AV) (d : Option Nat) (v : AV) : (putL l d v).length = l.length := by cases d <;> simp [putL, lset_eq]

/-- One operation of the canonical run, at place 'p'. -/
def StepOK (R : Rt) (call : FuncId → List AV → St → COut) (base p : Nat) (d : DOp) (tmps : List AV) (s : St) (v : AV) (s' : St) (log : List DLog) : Prop :=
  (wantedV d.op.guard tmps = some false ∧ v = .undef ∧ s' = s) ∨
  (wantedV d.op.guard tmps = some true ∧
    ((opV R tmps s d.op.k = .val v ∧ s' = s ∧ ∀ sz agg a, d.op.k = .load sz agg a → DLog.l (a.ev tmps) sz d.wl ∈ log) ∨
     (∃ ob mk, opV R tmps s d.op.k = .new ob mk ∧ d.op.k.cls = .a ∧ v = mk (base + p) ∧ s' = { s with heap := s.heap.set (base + p) (some ob) }) ∨
     (d.op.k.cls = .w ∧ DLog.w p s s' ∈ log ∧
       ((∃ ob mk, opV R tmps s d.op.k = .new ob mk ∧ v = mk s.next ∧ s' = s.alloc ob) ∨
        opV R tmps s d.op.k = .eff v s' ∨
        (∃ f args, opV R tmps s d.op.k = .call f args ∧ call f args s = .ret v s')))))

/-- How the canonical run ends behind 'm' operations. -/
def StopOK (R : Rt) (call : FuncId → List AV → St → COut) (l : List DOp) (m : Nat) (tmps : List AV) (s : St) (e : EExit) (fr' : Fr) (s' : St) : Prop :=
  (e = .normal ∧ m = l.length ∧ fr'.tmps = tmps ∧ s' = s) ∨
  (∃ d v, l[m]? = some d ∧ e = .panic v ∧ d.panicOK = true ∧ d.op.k.cls = .w ∧ wantedV d.op.guard tmps = some true ∧ fr'.tmps = d.junk.foldl (fun t i => lset t i .junk) tmps ∧
    ((opV R tmps s d.op.k = .panic v ∧ s' = s) ∨ ∃ f args, opV R tmps s d.op.k = .call f args ∧ call f args s = .panic v s'))

theorem trace (R : Rt) (call : FuncId → List AV → St → COut) (base : Nat) : ∀ (l : List DOp) (pos : Nat) (fr : Fr) (s : St) (log : List DLog) (e : EExit) (fr' : Fr) (s' : St) (log' : List DLog),
    execDraw R call base pos l fr s log = (.ok e fr' s', log') →
    ∃ (m : Nat) (T : Nat → List AV) (σ : Nat → St) (val : Nat → AV), m ≤ l.length ∧ T 0 = fr.tmps ∧ σ 0 = s ∧
      (∀ p, p < m → ∃ d, l[p]? = some d ∧ T (p + 1) = putL (T p) d.op.dst (val p) ∧ StepOK R call base (pos + p) d (T p) (σ p) (val p) (σ (p + 1)) log') ∧
      (∀ x ∈ log, x ∈ log') ∧ fr'.defers = fr.defers ∧ StopOK R call l m (T m) (σ m) e fr' s'
  | [], pos, fr, s, log, e, fr', s', log', h => by
    simp only [execDraw] at h
    cases h
    exact ⟨0, fun _ => fr.tmps, fun _ => s, fun _ => .undef, Nat.le_refl _, rfl, rfl, fun p hp => by omega, fun x hx => hx, rfl, .inl ⟨rfl, rfl, rfl, rfl⟩⟩
  | d :: l, pos, fr, s, log, e, fr', s', log', h => by
    -- one operation, and what follows
    have go : ∀ (v : AV) (s1 : St) (lg : List DLog), execDraw R call base (pos + 1) l (fr.put d.op.dst v) s1 lg = (.ok e fr' s', log') → (∀ x ∈ log, x ∈ lg) →
        ((∀ x ∈ lg, x ∈ log') → StepOK R call base pos d fr.tmps s v s1 log') →
        ∃ (m : Nat) (T : Nat → List AV) (σ : Nat → St) (val : Nat → AV), m ≤ (d :: l).length ∧ T 0 = fr.tmps ∧ σ 0 = s ∧
          (∀ p, p < m → ∃ d2, (d :: l)[p]? = some d2 ∧ T (p + 1) = putL (T p) d2.op.dst (val p) ∧ StepOK R call base (pos + p) d2 (T p) (σ p) (val p) (σ (p + 1)) log') ∧
          (∀ x ∈ log, x ∈ log') ∧ fr'.defers = fr.defers ∧ StopOK R call (d :: l) m (T m) (σ m) e fr' s' := by
      intro v s1 lg hrun hlog hstep
      obtain ⟨m, T, σ, val, h1, h2, h3, h4, h5, h6, h7⟩ := trace R call base l (pos + 1) (fr.put d.op.dst v) s1 lg e fr' s' log' hrun
      refine ⟨m + 1, fun p => match p with | 0 => fr.tmps | p + 1 => T p, fun p => match p with | 0 => s | p + 1 => σ p, fun p => match p with | 0 => v | p + 1 => val p, by simp; omega, rfl, rfl, ?_, fun x hx => h5 x (hlog x hx),
        by rw [h6, Fr.put_defers], ?_⟩
      · intro p hp
        cases p with
        | zero =>
          refine ⟨d, rfl, by simp only [h2, Fr.put_tmps], ?_⟩
          simp only [Nat.add_zero, h3]
          exact hstep h5
        | succ p =>
          obtain ⟨d2, g1, g2, g3⟩ := h4 p (by omega)
          exact ⟨d2, by simpa using g1, g2, by rw [show pos + (p + 1) = pos + 1 + p by omega]; exact g3⟩
      · rcases h7 with ⟨g1, g2, g3, g4⟩ | ⟨d2, v2, g1, g2⟩
        · exact .inl ⟨g1, by simp [g2], g3, g4⟩
        · exact .inr ⟨d2, v2, by simpa using g1, g2⟩
    simp only [execDraw] at h
    split at h
    · cases h
    · rename_i hw
      exact go _ _ _ h (fun x hx => hx) (fun _ => .inl ⟨hw, rfl, rfl⟩)
    · rename_i hw
      split at h
      · rename_i v hop
        refine go _ _ _ h (fun x hx => ?_) (fun hin => .inr ⟨hw, .inl ⟨hop, rfl, fun sz agg a hk => ?_⟩⟩)
        · split
          · exact List.mem_cons_of_mem _ hx
          · exact hx
        · apply hin
          rw [hk]
          exact List.mem_cons_self ..
      · rename_i ob mk hop
        split at h
        · rename_i hc
          exact go _ _ _ h (fun x hx => hx) (fun _ => .inr ⟨hw, .inr (.inl ⟨ob, mk, hop, hc, rfl, rfl⟩)⟩)
        · rename_i hc
          exact go _ _ _ h (fun x hx => List.mem_cons_of_mem _ hx) (fun hin => .inr ⟨hw, .inr (.inr ⟨hc, hin _ (List.mem_cons_self ..), .inl ⟨ob, mk, hop, rfl, rfl⟩⟩)⟩)
        · cases h
      · rename_i v s1 hop
        split at h
        · rename_i hc
          exact go _ _ _ h (fun x hx => List.mem_cons_of_mem _ hx) (fun hin => .inr ⟨hw, .inr (.inr ⟨hc, hin _ (List.mem_cons_self ..), .inr (.inl hop)⟩)⟩)
        · cases h
      · rename_i v hop
        split at h
        · rename_i hc
          cases h
          exact ⟨0, fun _ => fr.tmps, fun _ => s, fun _ => .undef, Nat.zero_le _, rfl, rfl, fun p hp => by omega, fun x hx => hx, rfl, .inr ⟨d, v, rfl, rfl, hc.1, hc.2, hw, rfl, .inl ⟨hop, rfl⟩⟩⟩
        · cases h
      · rename_i f args hop
        split at h
        · rename_i hc
          split at h
          · rename_i v s1 hcall
            exact go _ _ _ h (fun x hx => List.mem_cons_of_mem _ hx) (fun hin => .inr ⟨hw, .inr (.inr ⟨hc, hin _ (List.mem_cons_self ..), .inr (.inr ⟨f, args, hop, hcall⟩)⟩)⟩)
          · rename_i v s1 hcall
            split at h
            · rename_i hp
              cases h
              exact ⟨0, fun _ => fr.tmps, fun _ => s, fun _ => .undef, Nat.zero_le _, rfl, rfl, fun p hp => by omega, fun x hx => hx, rfl, .inr ⟨d, v, rfl, rfl, hp, hc, hw, rfl, .inr ⟨f, args, hop, hcall⟩⟩⟩
            · cases h
          · cases h
        · cases h
      · cases h
      · cases h

/-! Slots behind a set of operations. -/

/-- The slots when the operations of 'S' among the first 'n' have run. -/
def W (dst : Nat → Option Nat) (val : Nat → AV) (T0 : List AV) (S : Nat → Bool) : Nat → List AV
  | 0 => T0
  | p + 1 => if S p then putL (W dst val T0 S p) (dst p) (val p) else W dst val T0 S p

theorem tget_putL (l : List AV) (d : Option Nat) (v : AV) (t : Nat) : tget (putL l d v) t = if d = some t ∧ t < l.length then v else tget l t := by
  cases d with
  | none => simp [putL]
  | some d =>
    simp only [putL, tget_lset, Option.some.injEq]
    by_cases h : t = d
    · subst h; simp
    · rw [if_neg (by simp [h]), if_neg (by simp [Ne.symm h])]

section
variable {dst : Nat → Option Nat} {val : Nat → AV} {T0 : List AV} {S S' : Nat → Bool}

theorem W_length : ∀ p, (W dst val T0 S p).length = T0.length
  | 0 => rfl
  | p + 1 => by
    simp only [W]
    split
    · rw [putL_length, W_length]
    · exact W_length p

theorem W_agree {t : Nat} : ∀ p, (∀ q, q < p → dst q = some t → S q = S' q) → tget (W dst val T0 S p) t = tget (W dst val T0 S' p) t
  | 0, _ => rfl
  | p + 1, h => by
    have ih := W_agree p (fun q hq => h q (by omega))
    simp only [W]
    by_cases hd : dst p = some t
    · rw [h p (by omega) hd]
      split
      · rw [tget_putL, tget_putL, W_length, W_length, ih]
      · exact ih
    · have e : ∀ (S : Nat → Bool), tget (if S p then putL (W dst val T0 S p) (dst p) (val p) else W dst val T0 S p) t = tget (W dst val T0 S p) t := fun S => by
        split
        · rw [tget_putL, if_neg (fun h => hd h.1)]
        · rfl
      rw [e, e]; exact ih

theorem W_more {t p : Nat} : ∀ n, p ≤ n → (∀ q, p ≤ q → q < n → dst q = some t → S q = false) → tget (W dst val T0 S n) t = tget (W dst val T0 S p) t
  | 0, hp, _ => by have : p = 0 := by omega
                   subst this; rfl
  | n + 1, hp, h => by
    by_cases e : p = n + 1
    · subst e; rfl
    · have ih := W_more n (by omega) (fun q h1 h2 => h q h1 (by omega))
      rw [← ih]
      simp only [W]
      split
      · rename_i hS
        rw [tget_putL, if_neg (fun hd => by rw [h n (by omega) (by omega) hd.1] at hS; cases hS)]
      · rfl
end
end GoE

/- What the lowering of a drawn region has tested. No condition. -/
namespace GoE
open Go

theorem mem_unionL {i : Nat} : ∀ (b a : List Nat), i ∈ unionL a b → i ∈ a ∨ i ∈ b
  | [], a, h => .inl h
  | x :: b, a, h => by
    unfold unionL at h
    simp only [List.foldl_cons] at h
    rcases mem_unionL b (if a.contains x then a else x :: a) h with h1 | h1
    · split at h1
      · exact .inl h1
      · rcases List.mem_cons.1 h1 with h2 | h2
        · exact .inr (by simp [h2])
        · exact .inl h2
    · exact .inr (List.mem_cons_of_mem _ h1)

def Reach (ops : List Oper) (j i : Nat) : Prop :=
  ∀ (S : Nat → Prop), (∀ (i : Nat) (o : Oper), ops[i]? = some o → S i → ∀ e ∈ directs o, S e) → ∀ o, ops[j]? = some o → (∀ e ∈ directs o, S e) → S i

theorem befStep (ops : List Oper) (o : Oper) (acc : List (List Nat)) (k : Nat) (ho : ops[k]? = some o) (hk : acc.length = k) (h : ∀ j, j < k → ∀ i ∈ acc.getD j [], Reach ops j i) :
    ∀ (ds : List Nat) (s : List Nat), (∀ e ∈ ds, e ∈ directs o) → (∀ i ∈ s, Reach ops k i) → ∀ i ∈ ds.foldl (fun s e => unionL s (e :: acc.getD e [])) s, Reach ops k i
  | [], s, _, hs, i, hi => hs i hi
  | e :: ds, s, hd, hs, i, hi => by
    simp only [List.foldl_cons] at hi
    refine befStep ops o acc k ho hk h ds _ (fun x hx => hd x (List.mem_cons_of_mem _ hx)) (fun x hx => ?_) i hi
    have hed := hd e (List.mem_cons_self ..)
    rcases mem_unionL _ _ hx with h1 | h1
    · exact hs x h1
    · rcases List.mem_cons.1 h1 with h2 | h2
      · subst h2
        intro S hS o' ho' hall
        rw [ho] at ho'; cases ho'
        exact hall x hed
      · have hlt : e < k := by
          rcases Nat.lt_or_ge e k with h' | h'
          · exact h'
          · rw [List.getD_eq_getElem?_getD, List.getElem?_eq_none (by omega)] at h2
            simp at h2
        intro S hS o' ho' hall
        rw [ho] at ho'; cases ho'
        have he := hall e hed
        have hlt' : e < ops.length := by have := (List.getElem?_eq_some_iff.1 ho).1; omega
        exact h e hlt x h2 S hS ops[e] (List.getElem?_eq_getElem hlt') (hS e ops[e] (List.getElem?_eq_getElem hlt') he)

theorem befTbl_reach (ops : List Oper) : ∀ j, ∀ i ∈ (befTbl ops).getD j [], Reach ops j i := by
  have key : ∀ (l : List Oper) (acc : List (List Nat)) (k : Nat), acc.length = k → (∀ j, l[j]? = ops[k + j]?) → (∀ j, j < k → ∀ i ∈ acc.getD j [], Reach ops j i) →
      ∀ j, ∀ i ∈ (l.foldl (fun acc o => acc ++ [(directs o).foldl (fun s e => unionL s (e :: acc.getD e [])) []]) acc).getD j [], Reach ops j i := by
    intro l
    induction l with
    | nil =>
      intro acc k hk _ h j i hi
      rcases Nat.lt_or_ge j k with h' | h'
      · exact h j h' i hi
      · simp only [List.foldl_nil] at hi
        rw [List.getD_eq_getElem?_getD, List.getElem?_eq_none (by omega)] at hi
        simp at hi
    | cons o l ih =>
      intro acc k hk hl h
      simp only [List.foldl_cons]
      have h0 : ops[k]? = some o := by simpa using (hl 0).symm
      refine ih _ (k + 1) (by simp [hk]) (fun j => by have := hl (j + 1); simpa [Nat.add_assoc, Nat.add_comm 1 j] using this) (fun j hj i hi => ?_)
      rcases Nat.lt_or_ge j k with h' | h'
      · refine h j h' i ?_
        rw [List.getD_eq_getElem?_getD, List.getElem?_append_left (by omega)] at hi
        rw [List.getD_eq_getElem?_getD]
        exact hi
      · have : j = k := by omega
        subst this
        rw [List.getD_eq_getElem?_getD, List.getElem?_append_right (by omega), hk, Nat.sub_self] at hi
        simp only [List.getElem?_cons_zero, Option.getD_some] at hi
        exact befStep ops o acc j h0 hk h (directs o) [] (fun e he => he) (fun i hi => by cases hi) i hi
  exact key ops [] 0 rfl (fun j => by simp) (fun j hj => by omega)

theorem lowOpers_get {L : Low} {ops : Array Oper} : ∀ {l : List Oper} {es : List EOp}, lowOpers L ops l = some es → es.length = l.length ∧ ∀ (i : Nat) (o : Oper), l[i]? = some o → ∃ g, lowGuard ops o.guard = some g ∧
    es[i]? = some { dst := o.dst, guard := g, k := (lowOp L o.op).getD .bad }
  | [], es, h => by
    simp only [lowOpers, Option.some.injEq] at h
    subst h
    exact ⟨rfl, fun i o h => by simp at h⟩
  | x :: l, es, h => by
    obtain ⟨g, es', h1, h2, rfl⟩ := lowOpers_cons h
    obtain ⟨i1, i2⟩ := lowOpers_get h2
    refine ⟨by simp [i1], fun i o ho => ?_⟩
    cases i with
    | zero => simp at ho; subst ho; exact ⟨g, h1, rfl⟩
    | succ i => exact i2 i o (by simpa using ho)

/-- Two operations that share no slot which one of them writes, and do not both act. -/
def apartE (x y : EOp) : Prop := (∀ d, x.dst = some d → d ∉ namesOf y) ∧ (∀ d, y.dst = some d → d ∉ namesOf x) ∧ ¬ (x.k.cls = .w ∧ y.k.cls = .w)

def simpleE (e : EOp) : Prop := e.guard = none ∧ ((∃ t z, e.k = .alloc t z) ∨ e.k = .mkM)

structure DF (L : Low) (ops : Array Oper) (ds : List DOp) (ix : Nat → Nat) (B : Nat → Nat → Prop) : Prop where
  len : ds.length = ops.size
  ixLt : ∀ p, p < ops.size → ix p < ops.size
  inj : ∀ p q, p < ops.size → q < ops.size → ix p = ix q → p = q
  surj : ∀ i, i < ops.size → ∃ p, p < ops.size ∧ ix p = i
  op : ∀ (p : Nat) (d : DOp), ds[p]? = some d → ∃ o g, ops[ix p]? = some o ∧ lowGuard ops o.guard = some g ∧ d.op = { dst := o.dst, guard := g, k := (lowOp L o.op).getD .bad }
  bef : ∀ p q, p < ops.size → q < ops.size → B q p → Reach ops.toList (ix p) (ix q)
  topo : ∀ (p : Nat) (o : Oper), p < ops.size → ops[ix p]? = some o → ∀ e ∈ directs o, ∃ q, q < p ∧ ix q = e
  pairs : ∀ (p q : Nat) (dp dq : DOp), p < q → ds[p]? = some dp → ds[q]? = some dq → B p q ∨ apartE dp.op dq.op
  late : ∀ (p q : Nat) (dp dq : DOp), p < q → ds[p]? = some dp → ds[q]? = some dq → dp.op.k.cls = .a → dq.op.k.cls = .w → (∀ (r : Nat) (dr : DOp), p < r → r < q → ds[r]? = some dr → dr.op.k.cls ≠ .w) → B p q
  panicOK : ∀ (p : Nat) (d : DOp), ds[p]? = some d → d.panicOK = true → ∀ (q : Nat) (dq : DOp), p < q → ds[q]? = some dq → B p q ∨ simpleE dq.op
  junk : ∀ (p : Nat) (d : DOp), ds[p]? = some d → ∀ (q : Nat) (dq : DOp), ds[q]? = some dq → p ≠ q → ¬ B p q → ¬ B q p → ∀ t, dq.op.dst = some t → t ∈ d.junk
  wl : ∀ (p : Nat) (d : DOp), ds[p]? = some d → ∀ (q : Nat) (dq : DOp), ds[q]? = some dq → p ≠ q → ¬ B p q → ¬ B q p → dq.op.k.cls = .w → q ∈ d.wl

theorem topo_spec (ops : List Oper) : ∀ (l done : List Nat), drawOK.topo ops done l = true → ∀ (p i : Nat), l[p]? = some i → i ∉ done ∧ (∀ q : Nat, q < p → l[q]? ≠ some i) ∧ ∃ o, ops[i]? = some o ∧ ∀ e ∈ directs o, e ∈ done ∨ ∃ q : Nat, q < p ∧ l[q]? = some e
  | [], done, h, p, i, hp => by simp at hp
  | j :: l, done, h, p, i, hp => by
    simp only [drawOK.topo, Bool.and_eq_true, Bool.not_eq_true', List.contains_eq_mem, decide_eq_false_iff_not] at h
    obtain ⟨⟨h1, h2⟩, h3⟩ := h
    cases p with
    | zero =>
      simp only [List.getElem?_cons_zero, Option.some.injEq] at hp
      subst hp
      refine ⟨h1, fun q hq => by omega, ?_⟩
      split at h2
      · rename_i o ho
        refine ⟨o, ho, fun e he => .inl ?_⟩
        simpa using List.all_eq_true.1 h2 e he
      · cases h2
    | succ p =>
      simp only [List.getElem?_cons_succ] at hp
      obtain ⟨g1, g2, o, g3, g4⟩ := topo_spec ops l (j :: done) h3 p i hp
      refine ⟨fun hm => g1 (List.mem_cons_of_mem _ hm), fun q hq hq2 => ?_, o, g3, fun e he => ?_⟩
      · cases q with
        | zero => simp only [List.getElem?_cons_zero, Option.some.injEq] at hq2; subst hq2; exact g1 (List.mem_cons_self ..)
        | succ q => exact g2 q (by omega) (by simpa using hq2)
      · rcases g4 e he with h5 | ⟨q, h5, h6⟩
        · rcases List.mem_cons.1 h5 with h7 | h7
          · subst h7; exact .inr ⟨0, by omega, rfl⟩
          · exact .inl h7
        · exact .inr ⟨q + 1, by omega, by simpa using h6⟩

theorem pairs_spec (f : Nat × EOp → Nat × EOp → Bool) : ∀ (l : List (Nat × EOp)), drawOK.pairs l f = true → ∀ (p q : Nat) (x y : Nat × EOp), p < q → l[p]? = some x → l[q]? = some y → f x y = true
  | [], h, p, q, x, y, hpq, hp, hq => by simp at hp
  | a :: l, h, p, q, x, y, hpq, hp, hq => by
    simp only [drawOK.pairs, Bool.and_eq_true] at h
    cases q with
    | zero => omega
    | succ q =>
      simp only [List.getElem?_cons_succ] at hq
      cases p with
      | zero =>
        simp only [List.getElem?_cons_zero, Option.some.injEq] at hp
        subst hp
        exact List.all_eq_true.1 h.1 y (List.mem_of_getElem? hq)
      | succ p => exact pairs_spec f l h.2 p q x y (by omega) (by simpa using hp) hq

theorem late_spec (bef : List (List Nat)) : ∀ (l : List (Nat × EOp)), drawOK.late bef l = true → ∀ (p q : Nat) (x y : Nat × EOp), p < q → l[p]? = some x → l[q]? = some y → x.2.k.cls = .a → y.2.k.cls = .w →
    (∀ (r : Nat) (z : Nat × EOp), p < r → r < q → l[r]? = some z → z.2.k.cls ≠ .w) → (bef.getD y.1 []).contains x.1 = true
  | [], h, p, q, x, y, hpq, hp, hq, _, _, _ => by simp at hp
  | a :: l, h, p, q, x, y, hpq, hp, hq, hx, hy, hb => by
    obtain ⟨i, e⟩ := a
    simp only [drawOK.late, Bool.and_eq_true] at h
    cases q with
    | zero => omega
    | succ q =>
      simp only [List.getElem?_cons_succ] at hq
      cases p with
      | zero =>
        simp only [List.getElem?_cons_zero, Option.some.injEq] at hp
        subst hp
        have h1 := h.1
        simp only [hx] at h1
        have hfind : l.find? (fun x => x.2.k.cls == .w) = some y := by
          refine List.find?_eq_some_iff_getElem.2 ⟨by simp [hy], q, (List.getElem?_eq_some_iff.1 hq).1, (List.getElem?_eq_some_iff.1 hq).2, fun r hr => ?_⟩
          have hlt : r < l.length := by have := (List.getElem?_eq_some_iff.1 hq).1; omega
          have := hb (r + 1) l[r] (by omega) (by omega) (by simp [hlt])
          simpa using this
        rw [hfind] at h1
        simpa using h1
      | succ p =>
        exact late_spec bef l h.2 p q x y (by omega) (by simpa using hp) hq hx hy (fun r z h1 h2 h3 => hb (r + 1) z (by omega) (by omega) (by simpa using h3))
end GoE

/- The lowering of a drawn region keeps what it says. No condition. -/
namespace GoE
open Go

theorem zipIdx_get {α : Type} (l : List α) (p : Nat) (x : α × Nat) (h : l.zipIdx[p]? = some x) : l[p]? = some x.1 ∧ x.2 = p := by
  rw [List.getElem?_zipIdx] at h
  simp only [Option.map_eq_some_iff] at h
  obtain ⟨a, h1, rfl⟩ := h
  exact ⟨h1, by simp⟩

theorem zipIdx_mem {α : Type} (l : List α) (p : Nat) (x : α) (h : l[p]? = some x) : (x, p) ∈ l.zipIdx := by
  refine List.mem_of_getElem? (i := p) ?_
  rw [List.getElem?_zipIdx, h]
  simp

theorem lowDraw_df {L : Low} {ops : Array Oper} {ds : List DOp} (h : lowDraw L ops = some ds) : ∃ ix B, DF L ops ds ix B := by
  unfold lowDraw at h
  simp only at h
  split at h
  · cases h
  · rename_i es0 hes0
    split at h
    · rename_i hok
      generalize hord : canonOrd (befTbl ops.toList) (es0.map (·.k.cls)) = ord at hok h
      generalize hes : (ord.map fun i => es0.getD i default) = es at hok h
      cases h
      obtain ⟨l1, l2⟩ := lowOpers_get hes0
      unfold drawOK at hok
      simp only [Bool.and_eq_true, decide_eq_true_eq] at hok
      obtain ⟨⟨⟨⟨⟨o1, o2⟩, o3⟩, o4⟩, o5⟩, o6⟩ := hok
      have ts := topo_spec ops.toList ord [] o4
      have hn : ops.toList.length = ops.size := by simp
      rw [hn] at o1 o2 o3
      have hix : ∀ p, p < ops.size → ord[p]? = some (ord.getD p 0) := fun p hp => by
        rw [List.getD_eq_getElem?_getD, List.getElem?_eq_getElem (by omega)]; rfl
      have hixLt : ∀ p, p < ops.size → ord.getD p 0 < ops.size := fun p hp => by
        obtain ⟨_, _, o, g3, _⟩ := ts p _ (hix p hp)
        have := (List.getElem?_eq_some_iff.1 g3).1
        simpa using this
      -- the entry at a place
      have hoe : ∀ p, p < ops.size → ∃ o g, ops[ord.getD p 0]? = some o ∧ lowGuard ops o.guard = some g ∧ (ord.zip es)[p]? = some (ord.getD p 0, { dst := o.dst, guard := g, k := (lowOp L o.op).getD .bad }) := by
        intro p hp
        have hlt := hixLt p hp
        have ho : ops.toList[ord.getD p 0]? = some ops[ord.getD p 0] := by simp
        obtain ⟨g, k1, k2⟩ := l2 _ _ ho
        refine ⟨ops[ord.getD p 0], g, by simp, k1, ?_⟩
        rw [List.getElem?_zip_eq_some]
        refine ⟨hix p hp, ?_⟩
        rw [← hes, List.getElem?_map, hix p hp]
        simp only [Option.map_some]
        rw [List.getD_eq_getElem?_getD, k2]
        rfl
      have hds : ∀ (F : (Nat × EOp) × Nat → DOp) (p : Nat) (d : DOp), (((ord.zip es).zipIdx).map F)[p]? = some d → p < ops.size ∧ ∃ o g, ops[ord.getD p 0]? = some o ∧ lowGuard ops o.guard = some g ∧
          (ord.zip es)[p]? = some (ord.getD p 0, { dst := o.dst, guard := g, k := (lowOp L o.op).getD .bad }) ∧ d = F ((ord.getD p 0, { dst := o.dst, guard := g, k := (lowOp L o.op).getD .bad }), p) := by
        intro F p d hd
        rw [List.getElem?_map] at hd
        obtain ⟨x, h1, h2⟩ := Option.map_eq_some_iff.1 hd
        obtain ⟨h3, h4⟩ := zipIdx_get _ _ _ h1
        have hp : p < ops.size := by
          have := (List.getElem?_eq_some_iff.1 h3).1
          simp only [List.length_zip] at this
          omega
        obtain ⟨o, g, g1, g2, g3⟩ := hoe p hp
        refine ⟨hp, o, g, g1, g2, g3, ?_⟩
        rw [g3] at h3
        obtain ⟨x1, x2⟩ := x
        simp only at h3 h4
        cases h3
        subst h4
        exact h2.symm
      have hinj : ∀ p q, p < ops.size → q < ops.size → ord.getD p 0 = ord.getD q 0 → p = q := by
        intro p q hp hq he
        have hp' := hix p hp
        have hq' := hix q hq
        rcases Nat.lt_trichotomy p q with h | h | h
        · exact absurd (by rw [hp', he]) ((ts q _ hq').2.1 p h)
        · exact h
        · exact absurd (by rw [hq', he]) ((ts p _ hp').2.1 q h)
      refine ⟨fun p => ord.getD p 0, fun p q => ((befTbl ops.toList).getD (ord.getD q 0) []).contains (ord.getD p 0) = true, ?_⟩
      refine { len := ?_, ixLt := hixLt, inj := hinj, surj := ?_, op := ?_, bef := ?_, topo := ?_, pairs := ?_, late := ?_, panicOK := ?_, junk := ?_, wl := ?_ }
      · simp [o1, o2]
      · intro i hi
        have := List.all_eq_true.1 o3 i (List.mem_range.2 hi)
        simp only [List.contains_eq_mem, decide_eq_true_eq] at this
        obtain ⟨p, hp, he⟩ := List.getElem_of_mem this
        refine ⟨p, by omega, ?_⟩
        rw [List.getD_eq_getElem?_getD, List.getElem?_eq_getElem hp, he]; rfl
      · intro p d hd
        obtain ⟨hp, o, g, g1, g2, g3, g4⟩ := hds _ p d hd
        exact ⟨o, g, g1, g2, by rw [g4]⟩
      · intro p q hp hq hB
        exact befTbl_reach ops.toList _ _ (by simpa using hB)
      · intro p o hp ho e he
        obtain ⟨_, _, o', g3, g4⟩ := ts p _ (hix p hp)
        have : ops.toList[ord.getD p 0]? = some o := by simpa using ho
        rw [this] at g3; cases g3
        rcases g4 e he with h | ⟨q, h1, h2⟩
        · cases h
        · refine ⟨q, h1, ?_⟩
          rw [List.getD_eq_getElem?_getD, h2]; rfl
      · intro p q dp dq hpq hdp hdq
        obtain ⟨hp, o, g, g1, g2, g3, g4⟩ := hds _ p dp hdp
        obtain ⟨hq, o', g', g1', g2', g3', g4'⟩ := hds _ q dq hdq
        have := pairs_spec _ _ o6 p q _ _ hpq g3 g3'
        simp only [Bool.or_eq_true, Bool.and_eq_true] at this
        rcases this with h | ⟨⟨h1, h2⟩, h3⟩
        · exact .inl h
        · refine .inr ⟨fun d hd hm => ?_, fun d hd hm => ?_, fun hw => ?_⟩
          · rw [g4] at hd; simp only at hd
            rw [g4'] at hm; simp only at hm
            simp only [hd, Bool.not_eq_true', List.contains_eq_mem, decide_eq_false_iff_not] at h1
            exact h1 hm
          · rw [g4'] at hd; simp only at hd
            rw [g4] at hm; simp only at hm
            simp only [hd, Bool.not_eq_true', List.contains_eq_mem, decide_eq_false_iff_not] at h2
            exact h2 hm
          · obtain ⟨w1, w2⟩ := hw
            rw [g4] at w1; rw [g4'] at w2
            simp only at w1 w2
            simp [w1, w2] at h3
      · intro p q dp dq hpq hdp hdq ha hw hb
        obtain ⟨hp, o, g, g1, g2, g3, g4⟩ := hds _ p dp hdp
        obtain ⟨hq, o', g', g1', g2', g3', g4'⟩ := hds _ q dq hdq
        refine late_spec _ _ o5 p q _ _ hpq g3 g3' (by rw [g4] at ha; exact ha) (by rw [g4'] at hw; exact hw) (fun r z h1 h2 h3 => ?_)
        obtain ⟨o'', g'', g1'', g2'', g3''⟩ := hoe r (by omega)
        have hdr := hb r _ h1 h2 (by rw [List.getElem?_map, List.getElem?_zipIdx, g3'']; rfl)
        rw [g3''] at h3
        cases h3
        exact hdr
      · intro p d hd hpk q dq hpq hdq
        obtain ⟨hp, o, g, g1, g2, g3, g4⟩ := hds _ p d hd
        obtain ⟨hq, o', g', g1', g2', g3', g4'⟩ := hds _ q dq hdq
        rw [g4] at hpk
        simp only at hpk
        have := List.all_eq_true.1 hpk _ (zipIdx_mem _ q _ g3')
        simp only [Bool.or_eq_true, decide_eq_true_eq, Bool.and_eq_true] at this
        rcases this with (h | h) | ⟨h1, h2⟩
        · omega
        · exact .inl h
        · refine .inr ⟨?_, ?_⟩
          · rw [g4']; simpa using h1
          · rw [g4']
            simp only
            split at h2
            · rename_i t z hk; exact .inl ⟨t, z, hk⟩
            · rename_i hk; exact .inr hk
            · cases h2
      · intro p d hd q dq hdq hne hb1 hb2 t ht
        obtain ⟨hp, o, g, g1, g2, g3, g4⟩ := hds _ p d hd
        obtain ⟨hq, o', g', g1', g2', g3', g4'⟩ := hds _ q dq hdq
        rw [g4]
        simp only
        refine List.mem_filterMap.2 ⟨_, List.mem_filter.2 ⟨zipIdx_mem _ q _ g3', ?_⟩, ?_⟩
        · simp only [Bool.and_eq_true, bne_iff_ne, ne_eq, Bool.not_eq_true']
          refine ⟨⟨fun e => hne (hinj p q hp hq e.symm), ?_⟩, ?_⟩
          · simpa using hb2
          · simpa using hb1
        · rw [g4'] at ht
          exact ht
      · intro p d hd q dq hdq hne hb1 hb2 hw
        obtain ⟨hp, o, g, g1, g2, g3, g4⟩ := hds _ p d hd
        obtain ⟨hq, o', g', g1', g2', g3', g4'⟩ := hds _ q dq hdq
        rw [g4]
        simp only
        refine List.mem_filterMap.2 ⟨_, List.mem_filter.2 ⟨zipIdx_mem _ q _ g3', ?_⟩, ?_⟩
        · simp only [Bool.and_eq_true, bne_iff_ne, ne_eq, Bool.not_eq_true']
          refine ⟨⟨fun e => hne (hinj p q hp hq e.symm), ?_⟩, ?_⟩
          · simpa using hb2
          · simpa using hb1
        · rw [g4'] at hw
          simp only at hw
          simp only [hw]
          rfl
    · cases h
end GoE

/- A drawn region: what holds behind any set of its operations. No condition. -/
namespace GoE
open Go

section
variable {G0 G G' : Gh} {s0 s1 s2 : St} {w0 w w' : World}

theorem Post.push (h : Post G0 s0 w0 G s1 w) {o : Obj} (hp : Pushed w w' o) : Post G0 s0 w0 G s1 w' := by
  have hk := hp.kept G s1
  refine ⟨h.le, h.inv.push hp, ⟨Nat.le_trans h.kept.size (by rw [hp.size]; omega), hp.os.trans h.kept.os, hp.tape.trans h.kept.tape, hp.output.trans h.kept.output, fun b hb h1 h2 => ?_⟩, h.newBlk, h.newTok, h.next, h.noRes, h.newImm⟩
  rw [hp.old (Nat.lt_of_lt_of_le hb h.kept.size)]
  exact h.kept.block b hb h1 h2

/-- A block that waits for its name's turn. -/
theorem Post.pending (h : Post G0 s0 w0 G s1 w) {o : Obj} (hp : Pushed w w' o) {r : Nat} (hr0 : s0.next ≤ r) (hr1 : r < s1.next) (hb : G.blk r = none) (hn : s1.heap.get r = none) :
    Post G0 s0 w0 (G.addBlk r w.heap.size) s1 w' ∧ G.le (G.addBlk r w.heap.size) := by
  have h1 := h.push hp
  obtain ⟨hI, hle⟩ := h1.inv.addBlk (r := r) (b := w.heap.size) hb hn (by rw [hp.size]; omega) h.inv.noImmNew (fun q e k hq => by have := h.inv.tokLt q _ e k hq; omega) hr1
  refine ⟨⟨h.le.trans hle, hI, h1.kept, fun q b hq => ?_, fun q b e k hq => h.newTok q b e k hq, h.next, h.noRes, h.newImm⟩, hle⟩
  simp only [Gh.addBlk] at hq
  split at hq
  · rename_i e
    cases hq
    exact .inr ⟨by rw [e]; exact hr0, .inr h.kept.size⟩
  · exact h.newBlk q b hq

/-- It is its turn. -/
theorem Post.register (h : Post G0 s0 w0 G s1 w) {r b : Nat} {ob : HObj} {o : Obj} (hr0 : s0.next ≤ r) (hr1 : r < s1.next) (hn : s1.heap.get r = none) (hb : G.blk r = some b) (ht : ob.isTok = false) (hw : w.heap[b]? = some o)
    (hrel : ObjRel G ob o) (hun : ∀ q, G.blk q = some b → s1.heap.get q = none) : Post G0 s0 w0 G { s1 with heap := s1.heap.set r (some ob) } w := by
  have hI := h.inv.reg (s' := { s1 with heap := s1.heap.set r (some ob) }) (r := r) (fun q => Tr.get_set _ _ _ _) (Nat.le_refl _) hr1 hn hb ht hw hrel hun
  refine ⟨h.le, hI, h.kept, h.newBlk, h.newTok, h.next, fun q hq hq0 => ?_, h.newImm⟩
  show (s1.heap.set r (some ob)).get q = none
  rw [Tr.get_set, if_neg (by omega)]
  exact h.noRes q hq hq0

/-- A block that waits is let alone. -/
theorem Post.waits (h : Post G s1 w G' s2 w') (hi : Inv G s1 w) {r b : Nat} {ob : HObj} {o : Obj} (hb : G.blk r = some b) (hw : w.heap[b]? = some o) (hrel : ObjRel G ob o) (hn : s1.heap.get r = none) (hu : ∀ q, G.blk q = some b → q = r) :
    G'.blk r = some b ∧ w'.heap[b]? = some o ∧ ObjRel G' ob o ∧ ∀ q, G'.blk q = some b → q = r := by
  refine ⟨h.le.blk _ _ hb, ?_, hrel.mono h.le, fun q hq => ?_⟩
  · rw [h.kept.block b (lt_of_blk hw) (fun q hq => by rw [hu q hq]; exact hn) (fun q e k hq => hi.blkTok r q b e k hb hq)]
    exact hw
  · rcases h.newBlk q b hq with h1 | ⟨_, ⟨q', h1, h2⟩ | h1⟩
    · exact hu q h1
    · rw [hu q' h1] at h2; exact absurd hn h2
    · have := lt_of_blk hw; omega
end

section
variable {P : Program} {L : Low} {call : FuncId → List AV → St → COut}

def dstOf (ds : List DOp) (p : Nat) : Option Nat := (ds[p]?).bind (·.op.dst)

/-- The canonical run of a drawn region. -/
structure Run (P : Program) (call : FuncId → List AV → St → COut) (ops : Array Oper) (ds : List DOp) (base m : Nat) (T : Nat → List AV) (σ : Nat → St) (val : Nat → AV) (log : List DLog) : Prop where
  le : m ≤ ops.size
  step : ∀ p, p < m → ∃ d, ds[p]? = some d ∧ T (p + 1) = putL (T p) d.op.dst (val p) ∧ StepOK (rtOf P) call base p d (T p) (σ p) (val p) (σ (p + 1)) log
  log : ∀ x ∈ log, DLog.ok base log x = true
  fill : ∀ q, m ≤ q → val q = .junk

/-- The object that an operation of the canonical run makes ahead of its time. -/
def PendOb (P : Program) (ds : List DOp) (T : Nat → List AV) (σ : Nat → St) (p : Nat) (ob : HObj) : Prop :=
  ∃ d mk, ds[p]? = some d ∧ wantedV d.op.guard (T p) = some true ∧ opV (rtOf P) (T p) (σ p) d.op.k = .new ob mk ∧ d.op.k.cls = .a

variable {ops : Array Oper} {ds : List DOp} {ix : Nat → Nat} {B : Nat → Nat → Prop} {base m : Nat} {T : Nat → List AV} {σ : Nat → St} {val : Nat → AV} {log : List DLog}

theorem Run.T_eq (hr : Run P call ops ds base m T σ val log) : ∀ p, p ≤ m → T p = W (dstOf ds) val (T 0) (fun _ => true) p
  | 0, _ => rfl
  | p + 1, hp => by
    obtain ⟨d, h1, h2, _⟩ := hr.step p (by omega)
    rw [h2, hr.T_eq p (by omega)]
    simp only [W, if_true]
    have : dstOf ds p = d.op.dst := by simp [dstOf, h1]
    rw [this]

/-- No effect: memory is as it was, or one object more. -/
theorem Run.quiet (hr : Run P call ops ds base m T σ val log) {p : Nat} (hp : p < m) {d : DOp} (hd : ds[p]? = some d) (hw : d.op.k.cls ≠ .w) :
    σ (p + 1) = σ p ∨ ∃ ob, PendOb P ds T σ p ob ∧ σ (p + 1) = { σ p with heap := (σ p).heap.set (base + p) (some ob) } := by
  obtain ⟨d', h1, _, h3⟩ := hr.step p hp
  rw [hd] at h1; cases h1
  rcases h3 with ⟨_, _, h⟩ | ⟨hg, ⟨_, h, _⟩ | ⟨ob, mk, h4, h5, _, h⟩ | ⟨h, _⟩⟩
  · exact .inl h
  · exact .inl h
  · exact .inr ⟨ob, ⟨d, mk, hd, hg, h4, h5⟩, h⟩
  · exact absurd h hw

/-- What holds behind the operations of 'S'. -/
structure J (P : Program) (L : Low) (ops : Array Oper) (ds : List DOp) (ix : Nat → Nat) (base m : Nat) (T : Nat → List AV) (σ : Nat → St) (val : Nat → AV) (G0 : Gh) (s0 : St) (w0 : World) (dfs : List (AV × List AV))
    (S : Nat → Bool) (j : Nat) (G : Gh) (a : Act) (w : World) : Prop where
  jm : j ≤ m
  jw : ∀ p d, p < ops.size → ds[p]? = some d → S p = true → d.op.k.cls = .w → p < j
  jl : j = 0 ∨ ∃ q d, j = q + 1 ∧ S q = true ∧ ds[q]? = some d ∧ d.op.k.cls = .w
  post : Post G0 s0 w0 G (σ j) w
  fr : FrOK G { tmps := W (dstOf ds) val (T 0) S ops.size, defers := dfs, rcv := .off } a
  closed : ∀ p o, p < ops.size → S p = true → ops[ix p]? = some o → ∀ e ∈ directs o, ∃ q, q < ops.size ∧ ix q = e ∧ S q = true
  pend : ∀ p, p < m → S p = true → j ≤ p → ∀ ob, PendOb P ds T σ p ob → ob.isTok = false ∧ ∃ b o, G.blk (base + p) = some b ∧ w.heap[b]? = some o ∧ ObjRel G ob o ∧ ∀ q, G.blk q = some b → q = base + p
  free : ∀ p, p < ops.size → S p = false → G.blk (base + p) = none
  unreg : ∀ q, j ≤ q → q < ops.size → (σ j).heap.get (base + q) = none
  nxt : base + ops.size ≤ (σ j).next
  pm : m < ops.size → S m = false

variable {G0 : Gh} {s0 : St} {w0 : World} {dfs : List (AV × List AV)} {S : Nat → Bool} {j : Nat} {G : Gh} {a : Act} {w : World}

theorem DF.before (df : DF L ops ds ix B) {p q : Nat} (hp : p < ops.size) (hq : q < ops.size) (h : B q p) : q < p := by
  have hS := df.bef p q hp hq h (fun i => ∃ r, r < p ∧ ix r = i) (fun i o ho ⟨r, h1, h2⟩ e he => by
    subst h2
    obtain ⟨q', g1, g2⟩ := df.topo r o (by omega) (by simpa using ho) e he
    exact ⟨q', by omega, g2⟩)
  have hlt := df.ixLt p hp
  obtain ⟨r, h1, h2⟩ := hS ops[ix p] (by simp [hlt]) (fun e he => df.topo p _ hp (by simp [hlt]) e he)
  have := df.inj r q (by omega) hq h2
  omega

theorem J.bclosed (hj : J P L ops ds ix base m T σ val G0 s0 w0 dfs S j G a w) (df : DF L ops ds ix B) {p : Nat} (hp : p < ops.size) (hd : ∀ o, ops[ix p]? = some o → ∀ e ∈ directs o, ∃ q, q < ops.size ∧ ix q = e ∧ S q = true)
    {q : Nat} (hq : q < ops.size) (h : B q p) : S q = true := by
  have hS := df.bef p q hp hq h (fun i => ∃ r, r < ops.size ∧ ix r = i ∧ S r = true) (fun i o ho ⟨r, h1, h2, h3⟩ e he => by
    subst h2
    exact hj.closed r o h1 h3 (by simpa using ho) e he)
  have hlt := df.ixLt p hp
  obtain ⟨r, h1, h2, h3⟩ := hS ops[ix p] (by simp [hlt]) (hd _ (by simp [hlt]))
  have := df.inj r q h1 hq h2
  subst this
  exact h3

theorem J.bclosed' (hj : J P L ops ds ix base m T σ val G0 s0 w0 dfs S j G a w) (df : DF L ops ds ix B) {p : Nat} (hp : p < ops.size) (hS : S p = true) {q : Nat} (hq : q < ops.size) (h : B q p) : S q = true :=
  hj.bclosed df hp (fun o ho => hj.closed p o hp hS ho) hq h

/-- The slots that an operation names are those of the canonical run. -/
theorem J.names (hj : J P L ops ds ix base m T σ val G0 s0 w0 dfs S j G a w) (df : DF L ops ds ix B) {p : Nat} {d : DOp} (hp : p < ops.size) (hd : ds[p]? = some d) (hS : S p = false)
    (hdir : ∀ o, ops[ix p]? = some o → ∀ e ∈ directs o, ∃ q, q < ops.size ∧ ix q = e ∧ S q = true) {t : Nat} (ht : t ∈ namesOf d.op) :
    tget (W (dstOf ds) val (T 0) S ops.size) t = tget (W (dstOf ds) val (T 0) (fun _ => true) p) t := by
  have dget : ∀ q, dstOf ds q = some t → ∃ dq, ds[q]? = some dq ∧ dq.op.dst = some t := fun q hq => by
    simp only [dstOf, Option.bind_eq_some_iff] at hq
    exact hq
  rw [W_more (p := p) ops.size (by omega)]
  · refine W_agree p (fun q hq hdq => ?_)
    obtain ⟨dq, h1, h2⟩ := dget q hdq
    rcases df.pairs q p dq d hq h1 hd with h | ⟨h3, _⟩
    · exact hj.bclosed df hp hdir (by omega) h
    · exact absurd ht (h3 t h2)
  · intro q hq1 hq2 hdq
    cases hSq : S q with
    | false => rfl
    | true =>
      obtain ⟨dq, h1, h2⟩ := dget q hdq
      rcases Nat.lt_or_ge p q with h | h
      · rcases df.pairs p q d dq h hd h1 with h3 | ⟨_, h4, _⟩
        · have := hj.bclosed' df hq2 hSq hp h3
          rw [hS] at this; cases this
        · exact absurd ht (h4 t h2)
      · have : q = p := by omega
        subst this
        rw [hS] at hSq; cases hSq

/-- What waits takes its turn, up to 'p'. -/
theorem J.upto (hj : J P L ops ds ix base m T σ val G0 s0 w0 dfs S j G a w) (hr : Run P call ops ds base m T σ val log) (hb : base = s0.next) : ∀ (k : Nat), j + k ≤ m →
    (∀ r d, j ≤ r → r < j + k → ds[r]? = some d → d.op.k.cls ≠ .w ∧ (d.op.k.cls = .a → S r = true)) →
    Post G0 s0 w0 G (σ (j + k)) w ∧ (σ (j + k)).next = (σ j).next ∧ ∀ q, j + k ≤ q → q < ops.size → (σ (j + k)).heap.get (base + q) = none
  | 0, _, _ => ⟨hj.post, rfl, hj.unreg⟩
  | k + 1, hk, h => by
    obtain ⟨h1, h2, h3⟩ := hj.upto hr hb k (by omega) (fun r d g1 g2 => h r d g1 (by omega))
    have hle := hr.le
    obtain ⟨d, hd, _, _⟩ := hr.step (j + k) (by omega)
    obtain ⟨hw, ha⟩ := h (j + k) d (by omega) (by omega) hd
    rcases hr.quiet (by omega) hd hw with hs | ⟨ob, hp, hs⟩
    · rw [show j + (k + 1) = j + k + 1 by omega, hs]
      exact ⟨h1, h2, fun q hq hq2 => h3 q (by omega) hq2⟩
    · have hcls : d.op.k.cls = .a := by
        obtain ⟨d', mk, e1, _, _, e4⟩ := hp
        rw [hd] at e1; cases e1
        exact e4
      obtain ⟨ht, b, o, g1, g2, g3, g4⟩ := hj.pend (j + k) (by omega) (ha hcls) (by omega) ob hp
      have hn := h3 (j + k) (Nat.le_refl _) (by omega)
      have hreg := h1.register (r := base + (j + k)) (by omega) (by rw [h2]; have := hj.nxt; omega) hn g1 ht g2 g3 (fun q hq => by rw [g4 q hq]; exact hn)
      rw [show j + (k + 1) = j + k + 1 by omega, hs]
      refine ⟨hreg, h2, fun q hq hq2 => ?_⟩
      show ((σ (j + k)).heap.set (base + (j + k)) (some ob)).get (base + q) = none
      rw [Tr.get_set, if_neg (by omega)]
      exact h3 q (by omega) hq2
end
end GoE
