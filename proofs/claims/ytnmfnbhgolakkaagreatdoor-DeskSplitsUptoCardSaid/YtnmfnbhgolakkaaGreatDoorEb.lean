import Derived.Test.YtnmfnbhgolakkaaGreatDoorEa
import Derived.Laws.Tables
import Derived.Laws.AppendOwn
import Derived.Laws.MakeOwn
import Derived.Lib.Builder
import Derived.Lib.UnsafeStr
import Derived.MapKept
import Derived.Lib.OthersKept
/- One operation of the model does what the evaluator says: slices of texts, of slices, of arrays. No condition. -/
namespace GoE
open Go

theorem ba_extract (s : ByteArray) (l h : Nat) : (s.extract l h).data.toList = (s.data.toList.drop l).take (h - l) := by
  simp [ByteArray.data_extract, List.extract_eq_take_drop]

section
variable {P : Program} {L : Low} {G : Gh} {s : St} {w : World} {tmps : List AV} {a : Act}

def OptV (G : Gh) (tmps : List AV) : Option EArg → Option Value → Prop
  | none, none => True
  | some x, some v => V G (x.ev tmps) v
  | _, _ => False

theorem lowOpt_sound (hg : GlOK L G) (hT : Tm G tmps a.tmps) {x : Option Operand} {e : Option EArg} (h : lowOpt L x = some e) : OptV G tmps e (x.map a.eval) := by
  cases x with
  | none => simp only [lowOpt, Option.some.injEq] at h; subst h; trivial
  | some x =>
    simp only [lowOpt, Option.map_eq_some_iff] at h
    obtain ⟨y, hy, rfl⟩ := h
    exact lowArg_sound hg hT hy

/-- One bound of a slice: in range, or the run-time's panic. -/
theorem bound_run {k : IntKind} {n : Int} {y : Nat} {code : BoundsCode} (h : 0 ≤ n ∧ n ≤ y) : (Instr.sliceBound (.int k n) y code).run P w = .ok n.toNat w := by
  simp [Instr.sliceBound, asIntOf, h]
theorem bound_out {k : IntKind} {n : Int} {y : Nat} {code : BoundsCode} (h : ¬ (0 ≤ n ∧ n ≤ y)) : (Instr.sliceBound (.int k n) y code).run P w = (boundsPanic k n y code : Sem Nat).run P w := by
  simp [Instr.sliceBound, asIntOf, h]

theorem bnd_some {x : Option EArg} {v : Option Value} (h : OptV G tmps x v) {d n : Int} (hb : bnd x tmps d = some n) : (v = none ∧ n = d) ∨ ∃ k, v = some (.int k n) := by
  cases x with
  | none =>
    cases v with
    | none => simp only [bnd, Option.some.injEq] at hb; exact .inl ⟨rfl, hb.symm⟩
    | some v => exact h.elim
  | some x =>
    cases v with
    | none => exact h.elim
    | some v =>
      simp only [bnd] at hb
      have hv : V G (x.ev tmps) v := h
      generalize x.ev tmps = av at hv hb
      cases hv <;> try cases hb
      exact .inr ⟨_, rfl⟩

/-- Low and high in range: what the model reads; else its panic. No third bound. -/
theorem bounds2 (isS : Bool) (len cap : Nat) {lo hi : Option EArg} {vl vh : Option Value} (hl : OptV G tmps lo vl) (hh : OptV G tmps hi vh) {l h : Int} (el : bnd lo tmps 0 = some l) (eh : bnd hi tmps len = some h)
    (hlc : len ≤ cap) :
    ((0 ≤ h ∧ h ≤ cap) → (0 ≤ l ∧ l ≤ h) → (Instr.sliceBounds isS len cap vl vh none).run P w = .ok (l.toNat, h.toNat, cap) w) ∧
    ((0 ≤ h ∧ h ≤ cap) → ¬ (0 ≤ l ∧ l ≤ h) → ∃ k n y c, (Instr.sliceBounds isS len cap vl vh none).run P w = (boundsPanic k n y c : Sem (Nat × Nat × Nat)).run P w) ∧
    (¬ (0 ≤ h ∧ h ≤ cap) → ∃ k n y c, (Instr.sliceBounds isS len cap vl vh none).run P w = (boundsPanic k n y c : Sem (Nat × Nat × Nat)).run P w) := by
  have andThen_panic : ∀ {α β : Type} (k : IntKind) (n y : Int) (c : BoundsCode) (f : α → World → Result β) (w : World), ((boundsPanic k n y c : Sem α).run P w).andThen f = (boundsPanic k n y c : Sem β).run P w := by
    intro α β k n y c f w
    unfold boundsPanic
    by_cases h : (k != .u64 && decide (0 ≤ n) && decide (n ≤ 31)) = true
    · simp [h, runtimePanic, Question.forced]
    · simp [h, runtimePanic]
  rcases bnd_some hl el with ⟨rfl, rfl⟩ | ⟨kl, rfl⟩ <;> rcases bnd_some hh eh with ⟨rfl, rfl⟩ | ⟨kh, rfl⟩
  · refine ⟨fun _ _ => by simp [Instr.sliceBounds], fun _ h2 => by omega, fun h1 => by omega⟩
  · refine ⟨fun h1 h2 => ?_, fun h1 h2 => by omega, fun h1 => ⟨kh, h, cap, if isS then .sliceAcap else .sliceAlen, ?_⟩⟩
    · simp [Instr.sliceBounds, bound_run h1]
    · simp only [Instr.sliceBounds, Sem.run_bind, Sem.run_pure, Result.andThen_ok, bound_out h1, andThen_panic]
  · refine ⟨fun h1 h2 => ?_, fun h1 h2 => ⟨kl, l, len, .sliceB, ?_⟩, fun h1 => by omega⟩
    · simp [Instr.sliceBounds, bound_run (P := P) (w := w) (y := len) h2]
    · simp only [Instr.sliceBounds, Sem.run_bind, Sem.run_pure, Result.andThen_ok]
      simp only [Option.isSome_none, Bool.false_eq_true, if_false, bound_out (P := P) (w := w) (y := len) h2, andThen_panic]
  · refine ⟨fun h1 h2 => ?_, fun h1 h2 => ⟨kl, l, h.toNat, .sliceB, ?_⟩, fun h1 => ⟨kh, h, cap, if isS then .sliceAcap else .sliceAlen, ?_⟩⟩
    · have h2' : 0 ≤ l ∧ l ≤ (h.toNat : Int) := by omega
      simp [Instr.sliceBounds, bound_run h1, bound_run h2']
    · have h2' : ¬ (0 ≤ l ∧ l ≤ (h.toNat : Int)) := by omega
      simp only [Instr.sliceBounds, Sem.run_bind, Sem.run_pure, Result.andThen_ok, bound_run h1]
      simp only [Option.isSome_none, Bool.false_eq_true, if_false, bound_out h2', andThen_panic]
    · simp only [Instr.sliceBounds, Sem.run_bind, Sem.run_pure, Result.andThen_ok, bound_out h1, andThen_panic]

theorem panic_then {α β : Type} (k : IntKind) (n y : Int) (c : BoundsCode) (f : α → World → Result β) (w : World) : ((boundsPanic k n y c : Sem α).run P w).andThen f = (boundsPanic k n y c : Sem β).run P w := by
  unfold boundsPanic
  by_cases h : (k != .u64 && decide (0 ≤ n) && decide (n ≤ 31)) = true
  · simp [h, runtimePanic, Question.forced]
  · simp [h, runtimePanic]

theorem slS_ok (hi : Inv G s w) {t : TypeId} (hd : P.underlying t = some .string) {x : EArg} {v : Value} (hv : V G (x.ev tmps) v) {lo hh : Option EArg} {vl vh : Option Value} (hl : OptV G tmps lo vl)
    (hhv : OptV G tmps hh vh) : PureOK P G s w (opV (rtOf P) tmps s (.slS x lo hh)) (Instr.sliceAt t v vl vh none) := by
  simp only [opV]
  generalize x.ev tmps = av at hv
  cases hv <;> try trivial
  rename_i str
  simp only
  cases el : bnd lo tmps 0 with
  | none => trivial
  | some l =>
    cases eh : bnd hh tmps str.data.toList.length with
    | none => trivial
    | some h =>
      simp only [sliceStrV]
      rw [← size_data] at eh ⊢
      obtain ⟨g1, g2, g3⟩ := bounds2 (P := P) (w := w) false str.size str.size hl hhv el eh (Nat.le_refl _)
      have run : (Instr.sliceAt t (.string str) vl vh none).run P w = ((Instr.sliceBounds false str.size str.size vl vh none).run P w).andThen fun p w => .ok (.string (str.extract p.1 p.2.1)) w := by
        simp [Instr.sliceAt, Instr.slice, run_underlying hd]
      split
      · rename_i h1
        split
        · rename_i h2
          refine ⟨.string (str.extract l.toNat h.toNat), by rw [run, g1 h1 h2]; rfl, V.str_eq ?_⟩
          rw [ba_extract]
          congr 1
          omega
        · rename_i h2
          obtain ⟨k, n, y, c, e⟩ := g2 h1 h2
          exact PureOK.bounds hi k n y c (by rw [run, e, panic_then])
      · rename_i h1
        obtain ⟨k, n, y, c, e⟩ := g3 h1
        exact PureOK.bounds hi k n y c (by rw [run, e, panic_then])

/-- A part of a slice whose elements are known for good. -/
theorem V.sub {sz : Nat} {es : List AV} {b o : Nat} {vs : List Value} (hsz : 0 < sz) (hes : ∀ e, e ∈ es → e.cells.length = sz)
    (hl : vs.length = (es.flatMap AV.cells).length) (him : ∀ (i : Nat) (v : Value), vs[i]? = some v → G.imm b (o + i) = some v)
    (hv : ∀ (i : Nat) (c : AV) (v : Value), (es.flatMap AV.cells)[i]? = some c → vs[i]? = some v → V G c v) (h1 : ∀ (i : Nat) (v : Value), vs[i]? = some v → v.oneCell' = true)
    (l h : Nat) (hlh : l ≤ h) (hh : h ≤ es.length) (cap' : Nat) (hcap : h - l ≤ cap') (t' : Tok) (hx : t' = .exact → cap' = h - l)
    (ht : ∀ n, t' = .id n → (h - l = 0 ∧ cap' = 0) ∨ G.tok n = some (b, o + l * sz + (h - l) * sz, o + l * sz + cap' * sz)) :
    V G (.slice sz t' ((es.drop l).take (h - l))) (.slice (some ⟨b, o + l * sz, none⟩) (h - l) cap') := by
  have hfl := flat_length es sz hes
  have hVL : VL G (es.flatMap AV.cells) vs := ⟨hl, hv⟩
  have hlen : ((es.drop l).take (h - l)).length = h - l := by simp; omega
  have hes' : ∀ e, e ∈ (es.drop l).take (h - l) → e.cells.length = sz := fun e he => hes e (List.mem_of_mem_drop (List.mem_of_mem_take he))
  have hflat : ((es.drop l).take (h - l)).flatMap AV.cells = ((es.flatMap AV.cells).drop (l * sz)).take ((h - l) * sz) := by
    rw [flat_take _ sz _ (fun e he => hes e (List.mem_of_mem_drop he)), flat_drop _ sz _ hes]
  have hbd : l * sz + (h - l) * sz ≤ vs.length := by
    rw [hl, hfl, ← Nat.add_mul]
    exact Nat.mul_le_mul_right _ (by omega)
  have := V.slice (G := G) sz t' ((es.drop l).take (h - l)) b (o + l * sz) cap' ((vs.drop (l * sz)).take ((h - l) * sz)) hsz hes'
    (by rw [flat_length _ sz hes', hlen]; simp; omega)
    (fun i v hv' => by
      rw [List.getElem?_take] at hv'
      split at hv'
      · rw [List.getElem?_drop] at hv'
        have := him _ v hv'
        rwa [← Nat.add_assoc] at this
      · cases hv')
    (by rw [hflat]; exact ((hVL.drop _).take _).2)
    (fun i v hv' => by
      rw [List.getElem?_take] at hv'
      split at hv'
      · rw [List.getElem?_drop] at hv'; exact h1 _ v hv'
      · cases hv')
    (by rw [hlen]; exact hcap) (fun e => by rw [hlen]; exact hx e) (fun n e => by rw [hlen]; exact ht n e)
  rw [hlen] at this
  exact this

/-- No element and no room: wherever it points to. -/
theorem V.empty (G : Gh) {sz : Nat} (hsz : 0 < sz) (t : Tok) (b o : Nat) : V G (.slice sz t []) (.slice (some ⟨b, o, none⟩) 0 0) :=
  .slice sz t [] b o 0 [] hsz (fun e he => by cases he) rfl (fun i v h => by simp at h) (fun i c v h => by simp at h) (fun i v h => by simp at h) (Nat.le_refl _) (fun _ => rfl) (fun _ _ => .inl ⟨rfl, rfl⟩)

theorem take_none {es : List AV} {l h : Nat} (e : h ≤ l) : (es.drop l).take (h - l) = [] := by rw [Nat.sub_eq_zero_of_le e]; simp

theorem slV_ok (hi : Inv G s w) {t e : TypeId} {ti : TI} {i : TypeInfo} (hd : P.underlying t = some (.slice e)) (hte : TyOK P ti e i) {x : EArg} {v : Value} (hv : V G (x.ev tmps) v)
    {lo hh mx : Option EArg} {vl vh vm : Option Value} (hl : OptV G tmps lo vl) (hhv : OptV G tmps hh vh) (hm : OptV G tmps mx vm) (hmh : mx.isSome = true → hh.isSome = true) :
    PureOK P G s w (opV (rtOf P) tmps s (.slV ti.size x lo hh mx)) (Instr.sliceAt t v vl vh vm) := by
  have hs : (Go.sizeOf e).run P w = .ok ti.size w := by simp [Go.sizeOf, typeInfo, hte.info, hte.size]
  -- what the model does, in one line
  have run : ∀ (b : Option Addr) (len cap : Nat), (Instr.sliceAt t (.slice b len cap) vl vh vm).run P w =
      ((Instr.sliceBounds true len cap vl vh vm).run P w).andThen fun p w => ((Go.sizeOf e).run P w).andThen fun sz w => .ok (.slice (if p.2.2 = p.1 then b else b.map (·.add (p.1 * sz))) (p.2.1 - p.1) (p.2.2 - p.1)) w := by
    intro b len cap
    simp [Instr.sliceAt, Instr.slice, run_underlying hd]
  -- three bounds in range
  have full : ∀ (len cap : Nat) (l h m : Int), bnd lo tmps 0 = some l → bnd hh tmps len = some h → (∃ y : EArg, mx = some y ∧ ∃ k, y.ev tmps = .int k m) → 0 ≤ l → l ≤ h → h ≤ m → m ≤ cap →
      (Instr.sliceBounds true len cap vl vh vm).run P w = .ok (l.toNat, h.toNat, m.toNat) w := by
    intro len cap l h m el eh em h0 h1 h2 h3
    obtain ⟨y, rfl, k, ey⟩ := em
    cases vm with
    | none => exact hm.elim
    | some vm =>
      have hvm : V G (y.ev tmps) vm := hm
      rw [ey] at hvm
      cases hvm
      have b1 : 0 ≤ m ∧ m ≤ (cap : Int) := by omega
      have b2 : 0 ≤ h ∧ h ≤ (m.toNat : Int) := by omega
      have b3 : 0 ≤ l ∧ l ≤ (h.toNat : Int) := by omega
      have hsome := hmh rfl
      rcases bnd_some hhv eh with ⟨rfl, rfl⟩ | ⟨kh, rfl⟩
      · cases hh with
        | none => simp at hsome
        | some y => exact hhv.elim
      · rcases bnd_some hl el with ⟨rfl, rfl⟩ | ⟨kl, rfl⟩
        · simp [Instr.sliceBounds, bound_run b1, bound_run b2]
        · simp [Instr.sliceBounds, bound_run b1, bound_run b2, bound_run b3]
  simp only [opV]
  generalize x.ev tmps = av at hv
  cases hv <;> try trivial
  · -- nil
    simp only
    split
    · rename_i l h m el eh em
      cases mx with
      | none =>
        cases vm with
        | some _ => exact hm.elim
        | none =>
          obtain ⟨g1, _, _⟩ := bounds2 (P := P) (w := w) true 0 0 hl hhv el eh (Nat.le_refl _)
          exact ⟨.slice none 0 0, by rw [run, g1 (by omega) (by omega)]; simp [hs], .nilslice⟩
      | some y =>
        have hy : ∃ k, y.ev tmps = .int k 0 := by
          simp only [bnd] at em
          split at em
          · rename_i k n e; cases em; exact ⟨k, e⟩
          · cases em
        have := full 0 0 0 0 0 el eh ⟨y, rfl, hy⟩ (by omega) (by omega) (by omega) (by omega)
        exact ⟨.slice none 0 0, by rw [run, this]; simp [hs], .nilslice⟩
    · trivial
  · rename_i sz tk es b o cap vs hsz hes hlv him hv h1 hcap hx htk
    simp only
    split
    · rename_i hz
      subst hz
      cases el : bnd lo tmps 0 with
      | none => trivial
      | some l =>
        cases eh : bnd hh tmps es.length with
        | none => trivial
        | some h =>
          simp only
          split
          · rename_i hb
            have eb : es.length - 0 = es.length := rfl
            have elh : (h - l).toNat = h.toNat - l.toNat := by omega
            cases mx with
            | none =>
              cases vm with
              | some _ => exact hm.elim
              | none =>
                obtain ⟨g1, _, _⟩ := bounds2 (P := P) (w := w) true es.length cap hl hhv el eh hcap
                simp only
                rw [elh]
                by_cases ec : cap = l.toNat
                · refine ⟨.slice (some ⟨b, o, none⟩) 0 0, ?_, ?_⟩
                  · rw [run, g1 ⟨by omega, by omega⟩ ⟨by omega, by omega⟩]
                    have e1 : h.toNat - l.toNat = 0 := by omega
                    simp [hs, ec, e1]
                  · rw [take_none (by omega)]
                    exact V.empty G hsz _ b o
                refine ⟨.slice (some ⟨b, o + l.toNat * ti.size, none⟩) (h.toNat - l.toNat) (cap - l.toNat), ?_, ?_⟩
                · rw [run, g1 ⟨by omega, by omega⟩ ⟨by omega, by omega⟩]
                  simp [hs, ec, Addr_add]
                · refine V.sub hsz hes hlv him hv h1 l.toNat h.toNat (by omega) (by omega) _ (by omega) _ (fun e0 => ?_) (fun n e0 => ?_)
                  · split at e0
                    · rename_i eq; have := hx e0; omega
                    · cases e0
                  · split at e0
                    · rename_i eq
                      refine (htk n e0).imp (fun hz => by omega) (fun this => ?_)
                      rw [this]
                      have e1 : o + es.length * ti.size = o + l.toNat * ti.size + (h.toNat - l.toNat) * ti.size := by
                        rw [Nat.add_assoc, ← Nat.add_mul]; congr 2; omega
                      have e2 : o + cap * ti.size = o + l.toNat * ti.size + (cap - l.toNat) * ti.size := by
                        rw [Nat.add_assoc, ← Nat.add_mul]; congr 2; omega
                      rw [e1, e2]
                    · cases e0
            | some y =>
              simp only
              generalize hy : y.ev tmps = ay
              cases ay <;> try trivial
              rename_i k m
              simp only
              split
              · rename_i hb2
                have := full es.length cap l h m el eh ⟨y, rfl, k, hy⟩ (by omega) (by omega) (by omega) (by omega)
                rw [elh]
                by_cases ec : m.toNat = l.toNat
                · refine ⟨.slice (some ⟨b, o, none⟩) 0 0, ?_, ?_⟩
                  · rw [run, this]
                    have e1 : h.toNat - l.toNat = 0 := by omega
                    simp [hs, ec, e1]
                  · rw [take_none (by omega)]
                    exact V.empty G hsz _ b o
                refine ⟨.slice (some ⟨b, o + l.toNat * ti.size, none⟩) (h.toNat - l.toNat) (m.toNat - l.toNat), ?_, ?_⟩
                · rw [run, this]
                  simp [hs, ec, Addr_add]
                · refine V.sub hsz hes hlv him hv h1 l.toNat h.toNat (by omega) (by omega) _ (by omega) _ (fun e0 => ?_) (fun n e0 => ?_)
                  · split at e0
                    · rename_i eq; omega
                    · cases e0
                  · split at e0 <;> cases e0
              · trivial
          · split
            · rename_i hb hb2
              cases mx with
              | some y => simp at hb2
              | none =>
                cases vm with
                | some _ => exact hm.elim
                | none =>
                  obtain ⟨_, g2, _⟩ := bounds2 (P := P) (w := w) true es.length cap hl hhv el eh hcap
                  obtain ⟨k, n, y, c, e⟩ := g2 ⟨by omega, by omega⟩ (by omega)
                  exact PureOK.bounds hi k n y c (by rw [run, e, panic_then])
            · trivial
    · trivial
  · rename_i r off len cap co b off' hb hc hcap ho hk
    simp only
    cases el : bnd lo tmps 0 with
    | none => trivial
    | some l =>
      cases eh : bnd hh tmps len with
      | none => trivial
      | some h =>
        simp only
        split
        · rename_i hbd
          have elh : (h - l).toNat = h.toNat - l.toNat := by omega
          cases mx with
          | none =>
            cases vm with
            | some _ => exact hm.elim
            | none =>
              obtain ⟨g1, _, _⟩ := bounds2 (P := P) (w := w) true len cap hl hhv el eh hcap
              simp only
              rw [elh]
              have hco : ∀ c, co.map (· - l.toNat) = some c → c = cap - l.toNat := fun c e0 => by
                cases co with
                | none => cases e0
                | some c0 => simp at e0; rw [← e0, hc c0 rfl]
              have hkn : co.map (· - l.toNat) = none → co = none := fun e0 => by
                cases co with
                | none => rfl
                | some c0 => cases e0
              by_cases ec : cap = l.toNat
              · refine ⟨.slice (some ⟨b, off', none⟩) (h.toNat - l.toNat) (cap - l.toNat), ?_, .arr _ _ _ _ _ _ _ hb hco (by omega) (.inr (by omega)) (fun e0 => let ⟨K, k1, k2⟩ := hk (hkn e0); ⟨K, k1, fun _ => by omega⟩)⟩
                rw [run, g1 ⟨by omega, by omega⟩ ⟨by omega, by omega⟩]
                simp [hs, ec]
              obtain rfl : off' = off := ho.resolve_right (by omega)
              refine ⟨.slice (some ⟨b, off' + l.toNat * ti.size, none⟩) (h.toNat - l.toNat) (cap - l.toNat), ?_, .arr _ _ _ _ _ _ _ hb hco (by omega) (.inl rfl) (fun e0 => let ⟨K, k1, k2⟩ := hk (hkn e0); ⟨K, k1, fun h0 => by have := k2 (by omega); omega⟩)⟩
              rw [run, g1 ⟨by omega, by omega⟩ ⟨by omega, by omega⟩]
              simp [hs, ec, Addr_add]
          | some y =>
            simp only
            generalize hy : y.ev tmps = ay
            cases ay <;> try trivial
            rename_i k m
            simp only
            split
            · rename_i hb2
              have := full len cap l h m el eh ⟨y, rfl, k, hy⟩ (by omega) (by omega) (by omega) (by omega)
              rw [elh]
              have hco : ∀ c, some (m - l).toNat = some c → c = m.toNat - l.toNat := fun c e0 => by cases e0; omega
              by_cases ec : m.toNat = l.toNat
              · refine ⟨.slice (some ⟨b, off', none⟩) (h.toNat - l.toNat) (m.toNat - l.toNat), ?_, .arr _ _ _ _ _ _ _ hb hco (by omega) (.inr (by omega)) (fun e0 => by cases e0)⟩
                rw [run, this]
                simp [hs, ec]
              obtain rfl : off' = off := ho.resolve_right (by omega)
              refine ⟨.slice (some ⟨b, off' + l.toNat * ti.size, none⟩) (h.toNat - l.toNat) (m.toNat - l.toNat), ?_, .arr _ _ _ _ _ _ _ hb hco (by omega) (.inl rfl) (fun e0 => by cases e0)⟩
              rw [run, this]
              simp [hs, ec, Addr_add]
            · trivial
        · split
          · rename_i hb1 hb2
            cases mx with
            | some y => simp at hb2
            | none =>
              cases vm with
              | some _ => exact hm.elim
              | none =>
                obtain ⟨_, g2, _⟩ := bounds2 (P := P) (w := w) true len cap hl hhv el eh hcap
                obtain ⟨k, n, y, c, e⟩ := g2 ⟨by omega, by omega⟩ (by omega)
                exact PureOK.bounds hi k n y c (by rw [run, e, panic_then])
          · trivial
end
end GoE

/- One operation of the model does what the evaluator says: arrays sliced, assertions, structs and slices built, objects made. No condition. -/
namespace GoE
open Go

section
variable {P : Program} {L : Low} {G : Gh} {s : St} {w : World} {tmps : List AV} {a : Act}

theorem slA_ok (hi : Inv G s w) {t e : TypeId} {m : Nat} {ti : TI} {i : TypeInfo} (hd : P.underlying t = some (.array m e)) (hte : TyOK P ti e i) {x : EArg} {v : Value} (hv : V G (x.ev tmps) v)
    {lo hh : Option EArg} {vl vh : Option Value} (hl : OptV G tmps lo vl) (hhv : OptV G tmps hh vh) :
    PureOK P G s w (opV (rtOf P) tmps s (.slA m ti.size x lo hh)) (Instr.sliceAt t v vl vh none) := by
  have hs : (Go.sizeOf e).run P w = .ok ti.size w := by simp [Go.sizeOf, typeInfo, hte.info, hte.size]
  simp only [opV]
  generalize x.ev tmps = av at hv
  cases hv <;> try trivial
  rename_i r off b hb
  have run : (Instr.sliceAt t (.pointer (some ⟨b, off, none⟩)) vl vh none).run P w =
      ((Instr.sliceBounds false m m vl vh none).run P w).andThen fun p w => ((Go.sizeOf e).run P w).andThen fun sz w => .ok (.slice (some (if p.2.2 = p.1 then ⟨b, off, none⟩ else (Addr.mk b off none).add (p.1 * sz))) (p.2.1 - p.1) (p.2.2 - p.1)) w := by
    simp [Instr.sliceAt, run_underlying hd, Instr.sureAddr]
  simp only
  cases el : bnd lo tmps 0 with
  | none => trivial
  | some l =>
    cases eh : bnd hh tmps m with
    | none => trivial
    | some h =>
      obtain ⟨g1, g2, g3⟩ := bounds2 (P := P) (w := w) false m m hl hhv el eh (Nat.le_refl _)
      simp only
      split
      · rename_i hbd
        have elh : (h - l).toNat = h.toNat - l.toNat := by omega
        have hco : ∀ c, some (m - l.toNat) = some c → c = m - l.toNat := fun c e0 => by cases e0; rfl
        rw [elh]
        by_cases ec : m = l.toNat
        · refine ⟨.slice (some ⟨b, off, none⟩) (h.toNat - l.toNat) (m - l.toNat), ?_, .arr _ _ _ _ _ _ _ hb hco (by omega) (.inr (by omega)) (fun e0 => by cases e0)⟩
          rw [run, g1 ⟨by omega, by omega⟩ ⟨by omega, by omega⟩]
          simp [hs, ec]
        refine ⟨.slice (some ⟨b, off + l.toNat * ti.size, none⟩) (h.toNat - l.toNat) (m - l.toNat), ?_, .arr _ _ _ _ _ _ _ hb hco (by omega) (.inl rfl) (fun e0 => by cases e0)⟩
        rw [run, g1 ⟨by omega, by omega⟩ ⟨by omega, by omega⟩]
        simp [hs, ec, Addr_add]
      · rename_i hbd
        by_cases hb1 : 0 ≤ h ∧ h ≤ (m : Int)
        · obtain ⟨k, n, y, c, e⟩ := g2 hb1 (by omega)
          exact PureOK.bounds hi k n y c (by rw [run, e, panic_then])
        · obtain ⟨k, n, y, c, e⟩ := g3 hb1
          exact PureOK.bounds hi k n y c (by rw [run, e, panic_then])

theorem zero_run {t : TypeId} {ti : TI} {i : TypeInfo} (ht : TyOK P ti t i) {z : AV} (hz : ti.zero = some z) : ∃ v, (zeroValue t).run P w = .ok v w ∧ V G z v ∧ i.zero = some v := by
  obtain ⟨v, h1, h2⟩ := ht.zero z hz
  exact ⟨v, by simp [zeroValue, typeInfo, ht.info, h1], ofValue_sound G v z h2, h1⟩

theorem assert_ok {t : TypeId} {ti : TI} {i : TypeInfo} (ht : TyOK P ti t i) (hni : ∀ m, ti.desc ≠ .interface m) {x : EArg} {v : Value} (hv : V G (x.ev tmps) v) (xt : TypeId) (ok : Bool) :
    PureOK P G s w (opV (rtOf P) tmps s (.assert t ti.zero ok x)) (Instr.typeAssert v xt t ok) := by
  have two : ∀ {y : AV} {u : Value} (b : Bool), V G y u → V G (.tuple [y, .bool b]) (.tuple #[u, .bool b]) := fun {y u} b h => by
    have := VL.cons h (VL.cons (V.bool (G := G) b) (VL.nil G))
    exact .tuple _ _ rfl (fun i c v hc hv => this.2 i c v hc (by simpa using hv))
  simp only [opV]
  generalize x.ev tmps = av at hv
  have dsc : ∀ (u : Value), (Instr.typeAssert u xt t ok).run P w = (match (generalizing := false) u with
      | .nilIface => (if ok then (do pure (.tuple #[← zeroValue t, .bool false]) : Sem Value) else runtimePanic (.typeAssertion (some xt) none t "") : Sem Value).run P w
      | .iface tt v => (if tt = t then pure (if ok then .tuple #[v, .bool true] else v) else (if ok then (do pure (.tuple #[← zeroValue t, .bool false]) : Sem Value) else runtimePanic (.typeAssertion (some xt) (some tt) t "")) : Sem Value).run P w
      | _ => (stuck "TypeAssert: interface value expected" : Sem Value).run P w) := by
    intro u
    unfold Instr.typeAssert
    simp only [Sem.run_bind, run_underlying ht.desc, Result.andThen_ok]
    have := hni
    cases u <;> (cases hdd : ti.desc <;> first | (exact absurd hdd (hni _)) | rfl)
  cases hv <;> try trivial
  · rename_i tt y u hy
    simp only
    split
    · rename_i e
      subst e
      cases ok with
      | true => exact ⟨.tuple #[u, .bool true], by rw [dsc]; simp, two true hy⟩
      | false => exact ⟨u, by rw [dsc]; simp, hy⟩
    · rename_i e
      cases ok with
      | false => trivial
      | true =>
        cases hz : ti.zero with
        | none => trivial
        | some z =>
          obtain ⟨u, k1, k2, _⟩ := zero_run (P := P) (G := G) (w := w) ht hz
          exact ⟨.tuple #[u, .bool false], by rw [dsc]; simp [e, k1], two false k2⟩
  · cases ok with
    | false => trivial
    | true =>
      cases hz : ti.zero with
      | none => trivial
      | some z =>
        obtain ⟨u, k1, k2, _⟩ := zero_run (P := P) (G := G) (w := w) ht hz
        exact ⟨.tuple #[u, .bool false], by rw [dsc]; simp [k1], two false k2⟩

/-! Structs and slices built. -/

theorem foldl_set (ys : Array Value) : ∀ (l : List (Value × Nat)) (cs : Array Value) (off : Nat), (l.foldl (fun cs (c : Value × Nat) => cs.setIfInBounds (off + c.2) c.1) cs).size = cs.size
  | [], cs, off => rfl
  | x :: l, cs, off => by rw [List.foldl_cons, foldl_set ys l]; simp

theorem fold_arrSet : ∀ (vs : List Value) (n : Nat) (cs : Array Value) (off : Nat),
    (vs.zipIdx n).foldl (fun cs (c : Value × Nat) => cs.setIfInBounds (off + c.2) c.1) cs = arrSet cs (off + n) vs
  | [], n, cs, off => rfl
  | v :: vs, n, cs, off => by
    rw [List.zipIdx_cons, List.foldl_cons, fold_arrSet vs (n + 1)]
    rfl

theorem VL.setMany {cs : List AV} {vs : Array Value} (h : VL G cs vs.toList) {ds : List AV} {us : List Value} (hd : VL G ds us) (off : Nat) : VL G (lsetMany cs off ds) (arrSet vs off us).toList := by
  refine ⟨by rw [Array.length_toList, arrSet_size, lsetMany_length]; simpa using h.1, fun i c v hc hv => ?_⟩
  rw [lsetMany_get] at hc
  have hv' : (arrSet vs off us)[i]? = some v := by simpa using hv
  rw [arrSet_get, hd.1] at hv'
  have hl : vs.size = cs.length := by simpa using h.1
  rw [hl] at hv'
  split at hc
  · rename_i hin
    rw [if_pos hin] at hv'
    exact hd.2 _ c v hc hv'
  · rename_i hin
    rw [if_neg hin] at hv'
    exact h.2 i c v hc (by simpa using hv')

theorem arrSet_one {vs : Array Value} {us : List Value} (h : ∀ u ∈ vs.toList, u.oneCell' = true) (h1 : ∀ u ∈ us, u.oneCell' = true) (off : Nat) : ∀ u ∈ (arrSet vs off us).toList, u.oneCell' = true := by
  intro u hu
  obtain ⟨i, hi, e⟩ := List.getElem_of_mem hu
  have hv : (arrSet vs off us)[i]? = some u := by
    have : (arrSet vs off us).toList[i]? = some u := by rw [List.getElem?_eq_getElem hi, e]
    simpa using this
  rw [arrSet_get] at hv
  split at hv
  · exact h1 u (List.mem_of_getElem? hv)
  · exact h u (by have : vs.toList[i]? = some u := by simpa using hv
                  exact List.mem_of_getElem? this)

/-- The model's 'fill', against the evaluator's. -/
theorem fill_ok (hg : GlOK L G) (hT : Tm G tmps a.tmps) (place : Nat → Option (Nat × Nat)) : ∀ (parts : List (Nat × Operand)) (es : List (Nat × Nat × EArg)) (cs : List AV) (vs : Array Value) (r : List AV),
    lowParts L place parts = some es → VL G cs vs.toList → (∀ u ∈ vs.toList, u.oneCell' = true) → buildV cs (es.map fun (o, n, x) => (o, n, x.ev tmps)) = some r →
    ∃ ws, Instr.fill place vs (parts.map fun (i, x) => (i, a.eval x)) = some ws ∧ VL G r ws.toList ∧ (∀ u ∈ ws.toList, u.oneCell' = true)
  | [], es, cs, vs, r, hp, hv, h1, hb => by
    simp only [lowParts, Option.some.injEq] at hp
    subst hp
    simp only [List.map_nil, buildV, Option.some.injEq] at hb
    subst hb
    exact ⟨vs, rfl, hv, h1⟩
  | (i, x) :: parts, es, cs, vs, r, hp, hv, h1, hb => by
    simp only [lowParts] at hp
    cases e1 : place i with
    | none => simp [e1] at hp
    | some pn =>
      obtain ⟨o, n⟩ := pn
      cases e2 : lowArg L x with
      | none => simp [e1, e2] at hp
      | some ax =>
        cases e3 : lowParts L place parts with
        | none => simp [e1, e2, e3] at hp
        | some es' =>
          simp only [e1, e2, e3, Option.some.injEq] at hp
          subst hp
          simp only [List.map_cons, buildV] at hb
          split at hb
          · rename_i hc
            have hx := lowArg_sound hg hT e2
            obtain ⟨k1, k2⟩ := hx.storable_cells hc.2.2
            have hsz : (a.eval x).cells.size = n := by have := k1.1; simp at this; omega
            have hvl : vs.size = cs.length := by simpa using hv.1
            obtain ⟨ws, g1, g2, g3⟩ := fill_ok hg hT place parts es' _ (arrSet vs o (a.eval x).cells.toList) r e3 (hv.setMany k1 o) (arrSet_one h1 k2 o) hb
            refine ⟨ws, ?_, g2, g3⟩
            simp only [List.map_cons, Instr.fill, e1]
            rw [if_neg (by simp only [hsz]; simp; omega)]
            rw [← g1]
            congr 1
            have := fold_arrSet (a.eval x).cells.toList 0 vs o
            rw [Nat.add_zero] at this
            rw [← this, ← Array.foldl_toList]
            simp
          · cases hb

theorem zeroCells_ok {t : TypeId} {ti : TI} {i : TypeInfo} (hty : L.ty t = some ti) (ht : TyOK P ti t i) {cs : List AV} (hz : L.zeroCells t = some cs) :
    ∃ v, (zeroValue t).run P w = .ok v w ∧ i.zero = some v ∧ VL G cs v.cells.toList ∧ ∀ u ∈ v.cells.toList, u.oneCell' = true := by
  simp only [Low.zeroCells, hty, Option.bind_some] at hz
  cases hzz : ti.zero with
  | none => simp [hzz] at hz
  | some z =>
    simp only [hzz] at hz
    split at hz
    · rename_i hall
      simp only [Option.some.injEq] at hz
      subst hz
      obtain ⟨v, k1, k2, k3⟩ := zero_run (P := P) (G := G) (w := w) ht hzz
      have hst : z.storable = true := by cases z <;> first | rfl | (simp [AV.cells, AV.one] at hall)
      obtain ⟨g1, g2⟩ := k2.storable_cells hst
      exact ⟨v, k1, k3, g1, g2⟩
    · cases hz
end
end GoE

/- One operation of the model does what the evaluator says: structs and slices built, objects made. No condition. -/
namespace GoE
open Go

section
variable {P : Program} {L : Low} {G : Gh} {s : St} {w : World} {tmps : List AV} {a : Act}

theorem size_run {t : TypeId} {ti : TI} {i : TypeInfo} (ht : TyOK P ti t i) : (Go.sizeOf t).run P w = .ok ti.size w := by simp [Go.sizeOf, typeInfo, ht.info, ht.size]

/-- The places of a struct's fields, as the model reads them. -/
theorem places_run (hL : LowOK P L) (fs : Array Field) (hall : ∀ f ∈ fs.toList, (L.size f.type).isSome = true) :
    ∃ pl : Array (Nat × Nat), (fs.mapM fun (f : Field) => (do pure (f.offset, ← Go.sizeOf f.type) : Sem (Nat × Nat))).run P w = .ok pl w ∧ ∀ i, pl[i]? = fieldPlaces L fs i := by
  have key : ∀ l : List Field, (∀ f ∈ l, (L.size f.type).isSome = true) → ∃ pl : List (Nat × Nat), (l.mapM fun (f : Field) => (do pure (f.offset, ← Go.sizeOf f.type) : Sem (Nat × Nat))).run P w = .ok pl w ∧
      ∀ i : Nat, pl[i]? = (match l[i]? with | some f => (L.size f.type).map fun n => (f.offset, n) | none => none) := by
    intro l
    induction l with
    | nil => exact fun _ => ⟨[], rfl, fun i => by simp⟩
    | cons f l ih =>
      intro h
      obtain ⟨pl, h1, h2⟩ := ih (fun x hx => h x (by simp [hx]))
      have hf := h f (by simp)
      cases ht : L.ty f.type with
      | none => simp [Low.size, ht] at hf
      | some ti =>
        obtain ⟨i, hi⟩ := hL.ty _ _ ht
        refine ⟨(f.offset, ti.size) :: pl, ?_, fun i => ?_⟩
        · rw [List.mapM_cons]
          simp only [Sem.run_bind, size_run (w := w) hi, Result.andThen_ok, Sem.run_pure, h1]
        · cases i with
          | zero => simp [Low.size, ht]
          | succ i => simpa using h2 i
  obtain ⟨pl, h1, h2⟩ := key fs.toList hall
  refine ⟨pl.toArray, ?_, fun i => by rw [List.getElem?_toArray, h2 i, Array.getElem?_toList]; rfl⟩
  rw [Array.mapM_eq_mapM_toList]
  simp only [Sem.run_map, h1, Result.andThen_ok]

theorem build_agg {cs : List AV} {ws : Array Value} (h : VL G cs ws.toList) (h1 : ∀ u ∈ ws.toList, u.oneCell' = true) : V G (.agg cs) (.agg ws) :=
  .agg cs ws (by simpa using h.1) (fun i c v hc hv => h.2 i c v hc (by simpa using hv)) (fun i v hv => h1 v (List.mem_of_getElem? (by simpa using hv)))

theorem build_ok (hL : LowOK P L) (hg : GlOK L G) (hT : Tm G tmps a.tmps) {t : TypeId} {ti : TI} {i : TypeInfo} (hty : L.ty t = some ti) (ht : TyOK P ti t i) {place : Nat → Option (Nat × Nat)}
    (hpl : (∃ fs : Array Field, ti.desc = .struct fs ∧ place = fieldPlaces L fs ∧ ∀ f ∈ fs.toList, (L.size f.type).isSome = true) ∨
      (∃ n e ei, ti.desc = .array n e ∧ L.ty e = some ei ∧ place = fun i => some (i * ei.size, ei.size)))
    {z : List AV} (hz : L.zeroCells t = some z) {parts : Array (Nat × Operand)} {es : List (Nat × Nat × EArg)} (hp : lowParts L place parts.toList = some es) :
    PureOK P G s w (opV (rtOf P) tmps s (.build z es)) (Instr.build t (parts.map fun (i, x) => (i, a.eval x))) := by
  simp only [opV]
  cases hb : buildV z (es.map fun (o, n, x) => (o, n, x.ev tmps)) with
  | none => trivial
  | some r =>
    obtain ⟨zv, z1, _, z3, z4⟩ := zeroCells_ok (P := P) (G := G) (w := w) hty ht hz
    obtain ⟨ws, g1, g2, g3⟩ := fill_ok hg hT place parts.toList es z zv.cells r hp z3 z4 hb
    refine ⟨.agg ws, ?_, build_agg g2 g3⟩
    rcases hpl with ⟨fs, hd, rfl, hall⟩ | ⟨n, e, ei, hd, he, rfl⟩
    · have hu := ht.desc
      rw [hd] at hu
      obtain ⟨pl, p1, p2⟩ := places_run (P := P) (w := w) hL fs hall
      have hfun : (fun i => pl[i]?) = fieldPlaces L fs := funext p2
      simp only [Instr.build, Sem.run_bind, z1, Result.andThen_ok, run_underlying hu, p1]
      rw [show (fun x => pl[x]?) = fieldPlaces L fs from hfun]
      simp [g1]
    · have hu := ht.desc
      rw [hd] at hu
      obtain ⟨ie, hie⟩ := hL.ty _ _ he
      simp only [Instr.build, Sem.run_bind, z1, Result.andThen_ok, run_underlying hu, size_run hie]
      simp [g1]

theorem replicate_zero (zs : Array Value) (len : Nat) (hz : 0 < zs.size) : ((Array.range (len * zs.size)).map (zs[· % zs.size]!)).toList = (List.replicate len zs.toList).flatten := by
  apply List.ext_getElem?
  intro i
  have hlen : (List.replicate len zs.toList).flatten.length = len * zs.size := by simp
  by_cases hi : i < len * zs.size
  · have hm : i % zs.size < zs.size := Nat.mod_lt _ hz
    have h1 : ((Array.range (len * zs.size)).map (zs[· % zs.size]!)).toList[i]? = some zs[i % zs.size] := by
      simp [hi]
      rw [getElem!_pos zs _ hm]
    rw [h1]
    clear h1
    induction len generalizing i with
    | zero => omega
    | succ n ih =>
      rw [List.replicate_succ, List.flatten_cons]
      by_cases hlt : i < zs.size
      · rw [List.getElem?_append_left (by simpa using hlt)]
        simp [hlt, Nat.mod_eq_of_lt hlt]
      · have hi' : i - zs.size < n * zs.size := by rw [Nat.add_mul] at hi; omega
        have hm' : (i - zs.size) % zs.size < zs.size := Nat.mod_lt _ hz
        have := ih (i - zs.size) (by simp) hi' hm'
        rw [List.getElem?_append_right (by simp; omega)]
        simp only [Array.length_toList]
        rw [← this]
        congr 1
        have e : i % zs.size = (i - zs.size) % zs.size := by rw [Nat.mod_eq_sub_mod (by omega)]
        simp [e]
  · rw [List.getElem?_eq_none (by simp; omega), List.getElem?_eq_none (by rw [hlen]; omega)]

theorem VL.replicate {cs : List AV} {vs : List Value} (h : VL G cs vs) : ∀ n, VL G (List.replicate n cs).flatten (List.replicate n vs).flatten
  | 0 => VL.nil G
  | n + 1 => by rw [List.replicate_succ, List.replicate_succ, List.flatten_cons, List.flatten_cons]; exact h.append (VL.replicate h n)

theorem groupAgg_flat : ∀ (n size : Nat) (cs : List AV), cs.length = n * size → (groupAgg size n cs).flatMap AV.cells = cs ∧ (groupAgg size n cs).length = n ∧ ∀ e ∈ groupAgg size n cs, e.cells.length = size
  | 0, size, cs, h => by
    have : cs = [] := List.length_eq_zero_iff.1 (by simpa using h)
    subst this
    exact ⟨rfl, rfl, fun e he => by cases he⟩
  | n + 1, size, cs, h => by
    rw [Nat.add_mul, Nat.one_mul] at h
    obtain ⟨h1, h2, h3⟩ := groupAgg_flat n size (cs.drop size) (by simp; omega)
    refine ⟨?_, by simp [groupAgg, h2], fun e he => ?_⟩
    · simp [groupAgg, AV.cells, h1]
    · simp only [groupAgg, List.mem_cons] at he
      rcases he with rfl | he
      · simp [AV.cells]; omega
      · exact h3 e he

theorem flat_ones : ∀ (cs : List AV), (∀ c ∈ cs, c.cells = [c]) → cs.flatMap AV.cells = cs
  | [], _ => rfl
  | c :: cs, h => by rw [List.flatMap_cons, h c (by simp), flat_ones cs (fun x hx => h x (by simp [hx]))]; rfl

theorem one_cells {c : AV} {v : Value} (h : V G c v) (h1 : v.oneCell' = true) : c.cells = [c] := by
  cases h <;> first | rfl | (simp [Value.oneCell'] at h1)

/-- Cells, grouped as elements, flat again. -/
theorem groupEls_flat {agg : Bool} {size n : Nat} {cs : List AV} {vs : List Value} (h : VL G cs vs) (h1 : ∀ u ∈ vs, u.oneCell' = true) (hn : cs.length = n * size) (hs : agg = false → size = 1) :
    (groupEls agg size n cs).flatMap AV.cells = cs ∧ (groupEls agg size n cs).length = n ∧ ∀ e ∈ groupEls agg size n cs, e.cells.length = size := by
  cases agg with
  | true => exact groupAgg_flat n size cs hn
  | false =>
    obtain rfl := hs rfl
    have hc : ∀ c ∈ cs, c.cells = [c] := fun c hc => by
      obtain ⟨i, hi, rfl⟩ := List.getElem_of_mem hc
      obtain ⟨v, hv, hcv⟩ := h.get (List.getElem?_eq_getElem hi)
      exact one_cells hcv (h1 v (List.mem_of_getElem? hv))
    refine ⟨flat_ones cs hc, by simpa [groupEls] using hn, fun e he => ?_⟩
    rw [hc e he]; rfl

end
end GoE

/- One operation of the model does what the evaluator says: slices built, variables made, bytes of a text, slices made. No condition. -/
namespace GoE
open Go

theorem pushed_alloc (w : World) (o : Obj) : Pushed w { w with heap := w.heap.push o } o := ⟨rfl, rfl, rfl, rfl⟩

section
variable {P : Program} {L : Low} {G : Gh} {s : St} {w : World} {tmps : List AV} {a : Act}

theorem VL.cellsAt {cs : List AV} {vs : Array Value} (h : VL G cs vs.toList) (h1 : ∀ u ∈ vs.toList, u.oneCell' = true) : ∀ (i : Nat) (x : AV) (v : Value), cs[i]? = some x → vs[i]? = some v → V G x v ∧ v.oneCell' = true :=
  fun i x v hx hv => ⟨h.2 i x v hx (by simpa using hv), h1 v (List.mem_of_getElem? (i := i) (by simpa using hv))⟩

/-- A new row that may grow, as an object. -/
theorem rows_new (hi : Inv G s w) {w' : World} {el : TypeId} {sz lo hh : Nat} (hsz : G.sz el = sz) {cs : List AV} {ws : Array Value} (hv : ∀ (i : Nat) (x : AV) (v : Value), cs[i]? = some x → ws[i]? = some v → V G x v ∧ v.oneCell' = true)
    {n cap : Nat} (hl : cs.length = n * sz) (hcap : n ≤ cap) (hws : ws.size = cap * sz) (hf : cap * sz ≤ lo ∨ hh ≤ lo) (hp : Pushed w w' (.cells ws el (lo, hh))) :
    ∃ G', Post G s w G' (s.alloc (.cells el cs)) w' ∧ V G' (.arr s.next 0 n none) (.slice (some ⟨w.heap.size, 0, none⟩) n cap) := by
  have hm : n * sz ≤ cap * sz := Nat.mul_le_mul_right _ hcap
  obtain ⟨f1, f2, f3⟩ := hi.fresh s.next (Nat.le_refl _)
  have hle : G.le (G.addBlk s.next w.heap.size) := ⟨fun _ _ _ h => h, fun q c hq => by
    simp only [Gh.addBlk]
    rw [if_neg (fun e => by subst e; rw [f2] at hq; cases hq)]
    exact hq, fun _ _ h => h, fun _ _ h => h, rfl⟩
  have hP := Post.newRow hi hp (c := cs) ⟨ws, lo, hh, rfl, by omega, fun i x v hx hy => ⟨(hv i x v hx hy).1.mono hle, (hv i x v hx hy).2⟩, by omega⟩ (K := cap) (by rw [hsz, hws]; exact Nat.le_refl _) (by rw [hsz]; exact hf)
  exact ⟨_, hP, .arr _ _ _ _ _ _ _ (by simp [Gh.addBlk, Gh.addRoom]) (fun c h => by cases h) hcap (.inl rfl) (fun _ => ⟨cap, by simp [Gh.addBlk, Gh.addRoom], fun _ => Nat.le_refl _⟩)⟩

/-- The cells of a new slice, filled. -/
theorem rowFill (hL : LowOK P L) (hg : GlOK L G) (hT : Tm G tmps a.tmps) {e : TypeId} {ei : TI} (hty : L.ty e = some ei) {z : List AV} (hz : L.zeroCells e = some z) (hzl : z.length = ei.size) (hs0 : ei.size ≠ 0)
    {len : Nat} {parts : Array (Nat × Operand)} {ps : List (Nat × Nat × EArg)} (hp : lowParts L (fun i => some (i * ei.size, ei.size)) parts.toList = some ps) {r : List AV}
    (hb : buildV (List.replicate len z).flatten (ps.map fun (o, n, x) => (o, n, x.ev tmps)) = some r) (hlen : len * ei.size ≤ 2 ^ 20) (t : TypeId) (hd : P.underlying t = some (.slice e)) :
    ∃ ws : Array Value, (Instr.buildSlice t len (parts.map fun (i, x) => (i, a.eval x))).run P w = .ok (.slice (some ⟨w.heap.size, 0, none⟩) len len) { w with heap := w.heap.push (.cells ws e (0, 0)) } ∧
      VL G r ws.toList ∧ (∀ u ∈ ws.toList, u.oneCell' = true) := by
  obtain ⟨ie, hie⟩ := hL.ty _ _ hty
  obtain ⟨zv, z1, _, z3, z4⟩ := zeroCells_ok (P := P) (G := G) (w := w) hty hie hz
  have hzs : zv.cells.size = ei.size := by have := z3.1; simp at this; omega
  have hsz := size_run (w := w) hie
  have hbig : ¬ (len * ei.size > 2 ^ 24) := by omega
  by_cases h0 : len = 0
  · subst h0
    simp only [List.replicate_zero, List.flatten_nil] at hb
    obtain ⟨ws, g1, g2, g3⟩ := fill_ok hg hT (fun i => some (i * ei.size, ei.size)) parts.toList ps [] #[] r hp (VL.nil G) (fun u hu => by cases hu) hb
    refine ⟨ws, ?_, g2, g3⟩
    have g1' : Instr.fill (fun i => some (i * ei.size, ei.size)) #[] (parts.toList.map fun x => (x.1, a.eval x.2)) = some ws := g1
    simp only [Instr.buildSlice, Sem.run_bind, run_underlying hd, Result.andThen_ok, hsz]
    simp [newRow]
    rw [show (Array.range 0).map (fun _ => (default : Value)) = #[] by simp, g1']
    simp
  · have hn : len * ei.size ≠ 0 := Nat.mul_ne_zero h0 hs0
    have hrep := replicate_zero zv.cells len (by omega)
    rw [hzs] at hrep
    obtain ⟨ws, g1, g2, g3⟩ := fill_ok hg hT (fun i => some (i * ei.size, ei.size)) parts.toList ps _ ((Array.range (len * ei.size)).map (zv.cells[· % zv.cells.size]!)) r hp
      (by rw [hzs, hrep]; exact z3.replicate len) (by
        rw [hzs, hrep]
        intro u hu
        obtain ⟨l, hl, hul⟩ := List.mem_flatten.1 hu
        rw [(List.mem_replicate.1 hl).2] at hul
        exact z4 u hul) hb
    refine ⟨ws, ?_, g2, g3⟩
    have hb2 : ¬ (2 ^ 24 < len * ei.size) := by omega
    simp only [Instr.buildSlice, Sem.run_bind, run_underlying hd, Result.andThen_ok, hsz, Sem.run_ite, gt_iff_lt, if_neg hb2, if_neg hn, Sem.run_pure, z1]
    simp only [Array.toList_map]
    rw [g1]
    simp [newRow]

theorem lowParts_len {place : Nat → Option (Nat × Nat)} : ∀ {l : List (Nat × Operand)} {ps : List (Nat × Nat × EArg)}, lowParts L place l = some ps → ps.length = l.length
  | [], ps, h => by simp only [lowParts, Option.some.injEq] at h; subst h; rfl
  | (i, x) :: l, ps, h => by
    simp only [lowParts] at h
    split at h
    · rename_i h3
      simp only [Option.some.injEq] at h
      subst h
      simp [lowParts_len h3]
    · cases h

theorem buildV_length : ∀ (ps : List (Nat × Nat × AV)) (cs r : List AV), buildV cs ps = some r → r.length = cs.length
  | [], cs, r, h => by simp only [buildV, Option.some.injEq] at h; subst h; rfl
  | (o, n, v) :: ps, cs, r, h => by
    simp only [buildV] at h
    split at h
    · rw [buildV_length ps _ r h, lsetMany_length]
    · cases h

theorem replicate_flat_length (z : List AV) (len n : Nat) (h : z.length = n) : (List.replicate len z).flatten.length = len * n := by simp [h]

theorem bsliceV_ok (hi : Inv G s w) (hL : LowOK P L) (hg : GlOK L G) (hT : Tm G tmps a.tmps) {e : TypeId} {ei : TI} (hty : L.ty e = some ei) {z : List AV} (hz : L.zeroCells e = some z) (hzl : z.length = ei.size) (hs0 : ei.size ≠ 0)
    {len : Nat} {parts : Array (Nat × Operand)} {ps : List (Nat × Nat × EArg)} (hp : lowParts L (fun i => some (i * ei.size, ei.size)) parts.toList = some ps) (hlen : len * ei.size ≤ 2 ^ 20) {t : TypeId}
    (hd : P.underlying t = some (.slice e)) (hagg : ei.agg = false → ei.size = 1) :
    OpOK P G s w (opV (rtOf P) tmps s (.bsliceV ei.size ei.agg len (List.replicate len z).flatten ps)) ((do pure (.value (← Instr.buildSlice t len (parts.map fun (i, x) => (i, a.eval x)))) : Sem Next).run P w) := by
  simp only [opV]
  cases hb : buildV (List.replicate len z).flatten (ps.map fun (o, n, x) => (o, n, x.ev tmps)) with
  | none => trivial
  | some r =>
    obtain ⟨ws, g1, g2, g3⟩ := rowFill (P := P) (w := w) hL hg hT hty hz hzl hs0 hp hb hlen t hd
    have hp := pushed_alloc w (.cells ws e (0, 0))
    have hrl : r.length = len * ei.size := by rw [buildV_length _ _ _ hb, replicate_flat_length z len _ hzl]
    obtain ⟨f1, f2, f3⟩ := groupEls_flat g2 g3 hrl hagg
    have hPost := Post.pushImm hi hp (fun i => ws[i]?) (fun i v hv => by rw [cell_cells hp.new]; exact hv)
    refine ⟨.slice (some ⟨w.heap.size, 0, none⟩) len len, { w with heap := w.heap.push (.cells ws e (0, 0)) }, _, .inl (exec_value _ g1), hPost, ?_⟩
    have := V.slice (G := G.addImm w.heap.size fun i => ws[i]?) ei.size .exact (groupEls ei.agg ei.size len r) w.heap.size 0 len ws.toList (by omega) f3 (by rw [f1]; exact g2.1)
      (fun i v hv => by simp [Gh.addImm]; simpa using hv) (fun i c v hc hv => by rw [f1] at hc; exact (g2.2 i c v hc hv).mono hPost.le) (fun i v hv => g3 v (List.mem_of_getElem? hv)) (by omega) (fun _ => f2.symm) (fun n h => by cases h)
    rw [f2] at this
    exact this

theorem bsliceM_ok (hL : LowOK P L) (hg : GlOK L G) (hT : Tm G tmps a.tmps) {e : TypeId} {ei : TI} (hty : L.ty e = some ei) {z : List AV} (hz : L.zeroCells e = some z) (hzl : z.length = ei.size) (hs0 : ei.size ≠ 0)
    {len : Nat} {parts : Array (Nat × Operand)} {ps : List (Nat × Nat × EArg)} (hp : lowParts L (fun i => some (i * ei.size, ei.size)) parts.toList = some ps) (hlen : len * ei.size ≤ 2 ^ 20) {t : TypeId}
    (hd : P.underlying t = some (.slice e)) :
    OpOK P G s w (opV (rtOf P) tmps s (.bsliceM e ei.size len (List.replicate len z).flatten ps)) ((do pure (.value (← Instr.buildSlice t len (parts.map fun (i, x) => (i, a.eval x)))) : Sem Next).run P w) := by
  simp only [opV]
  cases hb : buildV (List.replicate len z).flatten (ps.map fun (o, n, x) => (o, n, x.ev tmps)) with
  | none => trivial
  | some r =>
    obtain ⟨ws, g1, g2, g3⟩ := rowFill (P := P) (w := w) hL hg hT hty hz hzl hs0 hp hb hlen t hd
    refine ⟨_, _, _, exec_value _ g1, pushed_alloc w _, rfl, fun ρ G' hle hb' => ⟨.arr _ _ _ _ _ _ _ hb' (fun c h => by cases h; rfl) (Nat.le_refl _) (.inl rfl) (fun h => by cases h), ws, 0, 0, rfl, ?_, ?_, .inr (Nat.le_refl _)⟩⟩
    · have := g2.1; simp at this; omega
    · exact (g2.mono hle).cellsAt g3

theorem alloc_ok (hL : LowOK P L) {e : TypeId} {z : List AV} (hz : L.zeroCells e = some z) :
    OpOK P G s w (opV (rtOf P) tmps s (.alloc e z)) ((do pure (.value (← Instr.alloc e true (.tuple #[]))) : Sem Next).run P w) := by
  cases hty : L.ty e with
  | none => simp [Low.zeroCells, hty] at hz
  | some ti =>
    obtain ⟨i, hie⟩ := hL.ty _ _ hty
    obtain ⟨zv, z1, _, z3, z4⟩ := zeroCells_ok (P := P) (G := G) (w := w) hty hie hz
    refine ⟨.pointer (some ⟨w.heap.size, 0, none⟩), _, .cells zv.cells e (0, 0), exec_value _ ?_, pushed_alloc w _, rfl, fun ρ G' hle hb' => ⟨.ptr _ _ _ hb', zv.cells, 0, 0, rfl, ?_, ?_, .inr (Nat.le_refl _)⟩⟩
    · simp [Instr.alloc, z1, newVar, newRow]
    · have := z3.1; simp at this; omega
    · exact (z3.mono hle).cellsAt z4

theorem box_ok {e : TypeId} {x : EArg} {v : Value} (hv : V G (x.ev tmps) v) :
    OpOK P G s w (opV (rtOf P) tmps s (.box e x)) ((do pure (.value (← Instr.box e v)) : Sem Next).run P w) := by
  simp only [opV]
  split
  · rename_i hst
    obtain ⟨k1, k2⟩ := hv.storable_cells hst
    refine ⟨.pointer (some ⟨w.heap.size, 0, none⟩), _, .cells v.cells e (0, 0), exec_value _ ?_, pushed_alloc w _, rfl, fun ρ G' hle hb' => ⟨.ptr _ _ _ hb', v.cells, 0, 0, rfl, ?_, ?_, .inr (Nat.le_refl _)⟩⟩
    · simp [Instr.box, newVar, newRow]
    · have := k1.1; simp at this; omega
    · exact (k1.mono hle).cellsAt k2
  · trivial

theorem mkM_ok {t : TypeId} : OpOK P G s w (opV (rtOf P) tmps s .mkM) ((do pure (.value (← Instr.makeMap t none)) : Sem Next).run P w) :=
  ⟨.map (some w.heap.size), _, .map #[] 0, exec_value _ (by simp [Instr.makeMap]), pushed_alloc w _, rfl, fun ρ G' _ hb' => ⟨.map _ _ hb', #[], 0, rfl, rfl, fun i x m h => by simp at h⟩⟩

theorem range_ok {t : TypeId} (hd : P.underlying t = some .string) {x : EArg} {v : Value} (hv : V G (x.ev tmps) v) :
    OpOK P G s w (opV (rtOf P) tmps s (.range x)) ((do pure (.value (← Instr.range t v)) : Sem Next).run P w) := by
  simp only [opV]
  generalize x.ev tmps = av at hv
  cases hv <;> try trivial
  rename_i str
  exact ⟨.pointer (some ⟨w.heap.size, 0, none⟩), _, .stringIter str 0, exec_value _ (by simp [Instr.range, run_underlying hd]), pushed_alloc w _, rfl, fun ρ G' _ hb' => ⟨.ptr _ _ _ hb', str, rfl, rfl⟩⟩

theorem bytesAV_VL (G : Gh) (l : List UInt8) : VL G (bytesAV l) (l.map fun c => Value.int .u8 c.toNat) := by
  refine ⟨by simp [bytesAV], fun i c v hc hv => ?_⟩
  simp only [bytesAV, List.getElem?_map] at hc hv
  cases h : l[i]? with
  | none => simp [h] at hc
  | some b => simp [h] at hc hv; subst hc; subst hv; exact .int _ _

theorem strBytes_ok (hi : Inv G s w) {src dst e : TypeId} (hsz : G.sz e = 1) (h1 : P.underlying src = some .string) (h2 : P.underlying dst = some (.slice e)) (h3 : P.underlying e = some (.int .u8)) {x : EArg} {v : Value} (hv : V G (x.ev tmps) v) :
    OpOK P G s w (opV (rtOf P) tmps s (.strBytes e x)) ((do pure (.value (← convert src dst v)) : Sem Next).run P w) := by
  simp only [opV]
  generalize x.ev tmps = av at hv
  cases hv <;> try trivial
  rename_i str
  -- the capacity is drawn
  have hq : (Question.appendCap str.size 0 e).forced = false := rfl
  let cap := (Question.appendCap str.size 0 e).cut (w.tape w.drawn (.appendCap str.size 0 e))
  have hcap : str.size ≤ cap := by simp only [cap, Question.cut]; omega
  let ws : Array Value := str.data.map (fun b => Value.int .u8 b.toNat) ++ Array.replicate (cap - str.size) (.int .u8 0)
  have hws : ws.size = cap := by simp [ws]; omega
  have hp : Pushed w { w with heap := w.heap.push (.cells ws e (cap, cap + 1)), drawn := w.drawn + 1 } (.cells ws e (cap, cap + 1)) := ⟨rfl, rfl, rfl, rfl⟩
  have hcells : ∀ (i : Nat) (x : AV) (v : Value), (bytesAV str.data.toList)[i]? = some x → ws[i]? = some v → V G x v ∧ v.oneCell' = true := by
    intro i x v hx hv
    have hb := bytesAV_VL G str.data.toList
    have hlt : i < str.data.size := by have := (List.getElem?_eq_some_iff.1 hx).1; simpa [bytesAV] using this
    have hv' : (str.data.toList.map fun c => Value.int .u8 c.toNat)[i]? = some v := by
      simp only [ws] at hv
      rw [Array.getElem?_append_left (by simpa using hlt)] at hv
      simpa using hv
    refine ⟨hb.2 i x v hx hv', ?_⟩
    simp only [List.getElem?_map] at hv'
    cases h : str.data.toList[i]? with
    | none => simp [h] at hv'
    | some b => simp [h] at hv'; subst hv'; rfl
  obtain ⟨G', q1, q2⟩ := rows_new (n := str.size) (cap := cap) hi hsz hcells (by simp [bytesAV]) hcap (by rw [hws]; omega) (.inl (by omega)) hp
  refine ⟨.slice (some ⟨w.heap.size, 0, none⟩) str.size cap, _, G', .inl (exec_value _ ?_), q1, by rw [size_data] at q2; exact q2⟩
  · simp only [convert, Sem.run_bind, run_underlying h1, run_underlying h2, run_underlying h3, Result.andThen_ok]
    simp only [Conv.stringToBytes, Sem.run_bind, run_choose, hq, Bool.false_eq_true, if_false, Result.andThen_ok, newRow, run_newObj, Sem.run_pure, markStringish, run_shape]
    have hshape : World.shape? { heap := w.heap.push (.cells ws e (0, 0)), tape := w.tape, drawn := w.drawn + 1, os := w.os, output := w.output } w.heap.size = some (e, cap) := by
      simp [World.shape?, hws]
    simp only [show (str.data.map (fun b => Value.int .u8 b.toNat) ++ Array.replicate ((Question.appendCap str.size 0 e).cut (w.tape w.drawn (.appendCap str.size 0 e)) - str.size) (Value.int .u8 0)) = ws from rfl, hshape, run_freeze, Result.andThen_ok]
    congr 1
    simp only [World.freeze]
    simp only [Nat.one_ne_zero, if_false]
    congr 1
    apply Array.ext_getElem?
    intro i
    rw [Array.getElem?_modify]
    simp only [Array.getElem?_push]
    by_cases hi : w.heap.size = i
    · subst hi; simp
    · rw [if_neg hi]
      by_cases hi2 : i = w.heap.size
      · exact absurd hi2.symm hi
      · simp [hi2]

end
end GoE

/- One operation of the model does what the evaluator says: append. No condition. -/
namespace GoE
open Go

section
variable {P : Program} {L : Low} {G : Gh} {s : St} {w : World} {tmps : List AV} {a : Act}

/-- The elements of a slice, and where the model holds their cells. -/
theorem slElems_cells (hi : Inv G s w) {av : AV} {v : Value} (hv : V G av v) {sz : Nat} {agg : Bool} (hsz : 0 < sz) (hagg : agg = false → sz = 1) {es : List AV} (h : slElems s sz agg av = some es) :
    ∃ base cap vs, v = .slice base es.length cap ∧ VL G (es.flatMap AV.cells) vs ∧ (∀ u ∈ vs, u.oneCell' = true) ∧ (∀ e ∈ es, e.cells.length = sz) ∧
      ((base = none ∧ es = [] ∧ cap = 0) ∨ ∃ b o, base = some ⟨b, o, none⟩ ∧ ∀ i u, vs[i]? = some u → w.cell? ⟨b, o + i, none⟩ = some u) := by
  cases hv <;> simp only [slElems] at h <;> try cases h
  · exact ⟨none, 0, [], rfl, VL.nil G, (fun u hu => by cases hu), (fun e he => by cases he), .inl ⟨rfl, rfl, rfl⟩⟩
  · rename_i sz' tk es' b o cap vs hsz' hes hl him hv h1 hcap hx htk
    split at h
    · rename_i hz
      subst hz
      cases h
      exact ⟨_, cap, vs, rfl, ⟨hl, hv⟩, (fun u hu => by obtain ⟨i, hi', rfl⟩ := List.getElem_of_mem hu; exact h1 i _ (List.getElem?_eq_getElem hi')), hes, .inr ⟨b, o, rfl, fun i u hu => hi.imm _ _ _ (him i u hu)⟩⟩
    · cases h
  · rename_i r off len cap co b off' hb hc hcap ho hk
    cases hg : s.heap.get r with
    | none => simp [hg] at h
    | some ob =>
      cases ob <;> simp only [hg] at h <;> try cases h
      case cells e c =>
        obtain ⟨l, h1, rfl⟩ := Option.map_eq_some_iff.1 h
        have hpl : V G (.ptr r off) (.pointer (some ⟨b, off, none⟩)) := .ptr _ _ _ hb
        obtain ⟨b', o', vs, e1, g1, g2, g3, g4⟩ := loadL_cells (n := len * sz) (cs := l) hi hpl (by simp [loadL, hg, h1])
        cases e1
        have hll : l.length = len * sz := by rw [← g1.1, g2]
        obtain ⟨f1, f2, f3⟩ := groupEls_flat (agg := agg) g1 g4 hll hagg
        refine ⟨some ⟨b, off', none⟩, cap, vs, by rw [f2], by rw [f1]; exact g1, g4, f3, .inr ⟨b, off', rfl, fun i u hu => ?_⟩⟩
        rcases ho with rfl | h0
        · exact g3 i u hu
        · have : vs.length = 0 := by rw [g2, show len = 0 by omega]; simp
          have : vs = [] := List.length_eq_zero_iff.1 this
          subst this
          simp at hu

theorem firstCells_run {base : Option Addr} {n cap sz : Nat} {vs : List Value} (hn : vs.length = n * sz)
    (h : (base = none ∧ n = 0) ∨ ∃ b o, base = some ⟨b, o, none⟩ ∧ ∀ i u, vs[i]? = some u → w.cell? ⟨b, o + i, none⟩ = some u) (len : Nat) :
    (Builtin.firstCells sz n (.slice base len cap)).run P w = .ok vs.toArray w := by
  rcases h with ⟨rfl, rfl⟩ | ⟨b, o, rfl, hc⟩
  · have : vs = [] := List.length_eq_zero_iff.1 (by simpa using hn)
    subst this
    simp [Builtin.firstCells]
  · have hl := run_loadCells_list (P := P) (w := w) ⟨b, o, none⟩ vs (fun j v hj => by rw [Addr_add]; exact hc j v hj)
    rw [hn] at hl
    simp [Builtin.firstCells, hl]

/-- What 'append' does where there is no room. -/
theorem append_grow_run {ts : Array TypeId} {ty t u e : TypeId} (h0 : ts[0]? = some t) (h1 : ts[1]? = some u) (ht : P.underlying t = some (.slice e)) {du : TypeDesc} (hu : P.underlying u = some du)
    (hni : ∀ k, du ≠ .int k) {ei : TI} {ie : TypeInfo} (hie : TyOK P ei e ie) {zv : Value} (hz : ie.zero = some zv) {base : Option Addr} {sLen sCap : Nat} {x : Value} {n : Nat} {olds news : Array Value}
    (hlen : (Builtin.lenOf x).run P w = .ok n w) (hnews : ∀ w', w'.heap = w.heap → (Builtin.firstCells ei.size n x).run P w' = .ok news w')
    (holds : ∀ w', w'.heap = w.heap → (Builtin.firstCells ei.size sLen (.slice base sLen sCap)).run P w' = .ok olds w') (hg : sCap < sLen + n) (hb : (sLen + n) * ei.bytes ≤ 1099511627776) (hb' : sLen + n ≤ 1099511627776) {args : Array Value}
    (ha0 : args[0]? = some (.slice base sLen sCap)) (ha1 : args[1]? = some x) :
    ∃ cap d, sLen + n ≤ cap ∧ (Builtin.append_ ts ty args).run P w = .ok (.slice (some ⟨w.heap.size, 0, none⟩) (sLen + n) cap)
      { w with heap := w.heap.push (.cells (olds ++ news ++ Builtin.zeroCells zv.cells (cap - (sLen + n))) e (0, 0)), drawn := d } := by
  let q : Question := .appendCap (sLen + n) sCap e
  have hcap : sLen + n ≤ q.cut (w.tape w.drawn q) := by simp only [q, Question.cut]; omega
  refine ⟨q.cut (w.tape w.drawn q), w.drawn + 1, hcap, ?_⟩
  have hnc : ¬ (sLen + n ≤ sCap) := by omega
  have h63 : ¬ ((sLen : Int) + (n : Int) > IntKind.i64.max) := by
    have : IntKind.i64.max = 9223372036854775807 := rfl
    omega
  have h48 : ¬ (Builtin.nextslicecap (sLen + n) sCap * ei.bytes > 2 ^ 48) := by
    have := growslice_fits hg (bytes := ei.bytes) (by omega)
    omega
  have hti : (typeInfo e).run P w = .ok ie w := by simp [typeInfo, hie.info]
  have hzv : ∀ w' : World, (zeroValue e).run P w' = .ok zv w' := fun w' => by simp [zeroValue, typeInfo, hie.info, hz]
  have hnd : ∀ k, P.underlying u ≠ some (.int k) := fun k h => hni k (by rw [hu] at h; cases h; rfl)
  have hsz := size_run (w := w) hie
  have hti' : ∀ w' : World, (typeInfo e).run P w' = .ok ie w' := fun w' => by simp [typeInfo, hie.info]
  unfold Builtin.append_
  simp only [h0, ha0, ha1, Sem.run_bind, run_underlying ht, Result.andThen_ok, hsz, h1, run_underlying hu, Sem.run_pure, Bool.false_eq_true, if_false, hlen, if_neg hnc, Bool.not_false, if_true]
  simp only [false_or, hti, Result.andThen_ok, Sem.run_ite, hie.bytes]
  simp only [Int.natCast_add, h63, false_and, if_false]
  simp [Question.forced, hzv, newRow, hti']
  rw [if_neg (by rw [hie.bytes]; omega), holds w.drew rfl]
  simp only [Result.andThen_ok]
  rw [hnews w.drew rfl]
  rfl

/-- What 'append' does where there is room. -/
theorem append_room_run {ts : Array TypeId} {ty t u e : TypeId} (h0 : ts[0]? = some t) (h1 : ts[1]? = some u) (ht : P.underlying t = some (.slice e)) {du : TypeDesc} (hu : P.underlying u = some du)
    (hni : ∀ k, du ≠ .int k) {ei : TI} {ie : TypeInfo} (hie : TyOK P ei e ie) {base : Option Addr} {sLen sCap : Nat} {x : Value} {n : Nat} {news : Array Value}
    (hlen : (Builtin.lenOf x).run P w = .ok n w) (hnews : (Builtin.firstCells ei.size n x).run P w = .ok news w) (hg : sLen + n ≤ sCap) {args : Array Value}
    (ha0 : args[0]? = some (.slice base sLen sCap)) (ha1 : args[1]? = some x) {w' : World}
    (hst : (match base with | some a => storeCells (a.add (sLen * ei.size)) news.toList | none => pure ()).run P w = .ok () w') :
    (Builtin.append_ ts ty args).run P w = .ok (.slice base (sLen + n) sCap) w' := by
  have hnd : ∀ k, P.underlying u ≠ some (.int k) := fun k h => hni k (by rw [hu] at h; cases h; rfl)
  have hsz := size_run (w := w) hie
  unfold Builtin.append_
  simp only [h0, ha0, ha1, Sem.run_bind, run_underlying ht, Result.andThen_ok, hsz, h1, run_underlying hu, Sem.run_pure, Bool.false_eq_true, if_false, hlen, if_pos hg, Bool.not_false, if_true]
  simp only [hnews, Result.andThen_ok]
  cases base with
  | none => simp at hst; subst hst; simp
  | some b =>
    have hst' : (storeCells (b.add (sLen * ei.size)) news.toList).run P w = .ok () w' := hst
    rw [Sem.run_bind, hst']
    rfl

end
end GoE

/- One operation of the model does what the evaluator says: append, whole. No condition. -/
namespace GoE
open Go

section
variable {P : Program} {L : Low} {G : Gh} {s : St} {w : World} {tmps : List AV} {a : Act}

/-- A slice that can be read: its cells, and where they lie. -/
structure RowAt (G : Gh) (w : World) (sz : Nat) (es : List AV) (base : Option Addr) (cap : Nat) (vs : List Value) : Prop where
  vl : VL G (es.flatMap AV.cells) vs
  one : ∀ u ∈ vs, u.oneCell' = true
  size : ∀ e ∈ es, e.cells.length = sz
  cells : (base = none ∧ es = [] ∧ cap = 0) ∨ ∃ b o, base = some ⟨b, o, none⟩ ∧ ∀ i u, vs[i]? = some u → w.cell? ⟨b, o + i, none⟩ = some u

theorem slElems_row (hi : Inv G s w) {av : AV} {v : Value} (hv : V G av v) {sz : Nat} {agg : Bool} (hsz : 0 < sz) (hagg : agg = false → sz = 1) {es : List AV} (h : slElems s sz agg av = some es) :
    ∃ base cap vs, v = .slice base es.length cap ∧ RowAt G w sz es base cap vs := by
  obtain ⟨base, cap, vs, e1, e2, e3, e4, e5⟩ := slElems_cells hi hv hsz hagg h
  exact ⟨base, cap, vs, e1, e2, e3, e4, e5⟩

theorem RowAt.len {sz : Nat} {es : List AV} {base : Option Addr} {cap : Nat} {vs : List Value} (h : RowAt G w sz es base cap vs) : vs.length = es.length * sz := by
  rw [h.vl.1, flat_length _ _ h.size]

theorem RowAt.first {sz : Nat} {es : List AV} {base : Option Addr} {cap : Nat} {vs : List Value} (h : RowAt G w sz es base cap vs) (len : Nat) {w' : World} (hw : w'.heap = w.heap) :
    (Builtin.firstCells sz es.length (.slice base len cap)).run P w' = .ok vs.toArray w' := by
  refine firstCells_run h.len ?_ len
  rcases h.cells with ⟨h1, h2, _⟩ | ⟨b, o, h1, h2⟩
  · exact .inl ⟨h1, by rw [h2]; rfl⟩
  · exact .inr ⟨b, o, h1, fun i u hu => by rw [cell_of_blk (w := w) (by rw [hw])]; exact h2 i u hu⟩

/-- What is laid behind a slice. -/
structure TailAt (P : Program) (G : Gh) (w : World) (sz : Nat) (xs : List AV) (u : TypeId) (x : Value) (vs : List Value) : Prop where
  vl : VL G (xs.flatMap AV.cells) vs
  one : ∀ u ∈ vs, u.oneCell' = true
  size : ∀ e ∈ xs, e.cells.length = sz
  desc : ∃ du, P.underlying u = some du ∧ ∀ k, du ≠ .int k
  lenOf : (Builtin.lenOf x).run P w = .ok xs.length w
  first : ∀ w' : World, w'.heap = w.heap → (Builtin.firstCells sz xs.length x).run P w' = .ok vs.toArray w'

theorem zeroCells_size (cs : Array Value) (n : Nat) : (Builtin.zeroCells cs n).size = n * cs.size := by simp [Builtin.zeroCells]

/-- 'append' where there is no room: a new row, to which more may be laid. -/
theorem append_new (_hi : Inv G s w) {ts : Array TypeId} {ty t u e : TypeId} (h0 : ts[0]? = some t) (h1 : ts[1]? = some u) (ht : P.underlying t = some (.slice e))
    {ei : TI} {ie : TypeInfo} (hie : TyOK P ei e ie) (hz : ei.zero.isSome = true) (_hs0 : 0 < ei.size) {es xs : List AV} {base : Option Addr} {cap : Nat} {x : Value} {vs ws : List Value}
    (hes : RowAt G w ei.size es base cap vs) (hxs : TailAt P G w ei.size xs u x ws) (hg : cap < es.length + xs.length)
    (hb : (es.length + xs.length) * ei.bytes ≤ 1099511627776) (hb' : es.length + xs.length ≤ 1099511627776) {args : Array Value} (ha0 : args[0]? = some (.slice base es.length cap)) (ha1 : args[1]? = some x) :
    ∃ v' w' cap' o, (Builtin.append_ ts ty args).run P w = .ok v' w' ∧ Pushed w w' o ∧ v' = .slice (some ⟨w.heap.size, 0, none⟩) (es.length + xs.length) cap' ∧ es.length + xs.length ≤ cap' ∧
      ∃ zs : Array Value, zs.size = (cap' - (es.length + xs.length)) * ei.size ∧ o = .cells ((vs ++ ws).toArray ++ zs) e (0, 0) := by
  obtain ⟨zz, hzz⟩ := Option.isSome_iff_exists.1 hz
  obtain ⟨zv, z1, z2⟩ := hie.zero zz hzz
  obtain ⟨du, hu, hni⟩ := hxs.desc
  obtain ⟨cap', d, k1, k2⟩ := append_grow_run (w := w) (ty := ty) h0 h1 ht hu hni hie z1 hxs.lenOf hxs.first (fun w' hw => hes.first es.length hw) hg hb hb' ha0 ha1
  refine ⟨_, _, cap', _, k2, ⟨rfl, rfl, rfl, rfl⟩, rfl, k1, Builtin.zeroCells zv.cells (cap' - (es.length + xs.length)), by rw [zeroCells_size, hie.zsize zv z1], by simp⟩

theorem toks_new (hi : Inv G s w) {w' : World} {sz : Nat} (hs0 : 0 < sz) {es : List AV} {vs : List Value} (hv : VL G (es.flatMap AV.cells) vs) (h1 : ∀ u ∈ vs, u.oneCell' = true) (hes : ∀ e ∈ es, e.cells.length = sz)
    {cap : Nat} (hcap : es.length ≤ cap) {zs : Array Value} (hzs : zs.size = (cap - es.length) * sz) {e : TypeId} (hp : Pushed w w' (.cells (vs.toArray ++ zs) e (0, 0))) :
    ∃ G', Post G s w G' (s.alloc (.tok e false)) w' ∧ V G' (.slice sz (.id s.next) es) (.slice (some ⟨w.heap.size, 0, none⟩) es.length cap) := by
  have hl : vs.length = es.length * sz := by rw [hv.1, flat_length _ _ hes]
  have hP := Post.tokNew hi hp (e := vs.length) (by simp) (Nat.zero_le _)
  refine ⟨_, hP, .slice sz (.id s.next) es w.heap.size 0 cap vs hs0 hes hv.1 (fun i v hiv => ?_) (hv.mono hP.le).2 (fun i v hiv => h1 v (List.mem_of_getElem? hiv)) hcap (fun h => by cases h) (fun n hn => .inr ?_)⟩
  · have : i < vs.length := (List.getElem?_eq_some_iff.1 hiv).1
    simp only [Gh.addTok, Gh.addImm, if_true, Nat.zero_add, if_pos this]
    rw [Array.getElem?_append_left (by simpa using this)]
    simpa using hiv
  · cases hn
    simp only [Gh.addTok, if_true]
    have hm : (cap - es.length) * sz = cap * sz - es.length * sz := Nat.sub_mul _ _ _
    have hle : es.length * sz ≤ cap * sz := Nat.mul_le_mul_right _ hcap
    have hz : (vs.toArray ++ zs).size = cap * sz := by rw [Array.size_append, hzs, hm, List.size_toArray, hl]; omega
    rw [hl, hz, Nat.zero_add, Nat.zero_add]

theorem hcap_of {av : AV} {base : Option Addr} {n cap : Nat} {v : Value} (hv : V G av v) (hj : av ≠ .junk) (he : v = .slice base n cap) : n ≤ cap := by
  cases hv <;> first | contradiction | (cases he; done) | skip
  case nilslice => cases he; exact Nat.le_refl _
  case slice hcap _ _ => cases he; exact hcap
  case arr hcap _ _ => cases he; exact hcap

theorem appendV_ok (hi : Inv G s w) {ts : Array TypeId} {ty t u e : TypeId} (h0 : ts[0]? = some t) (h1 : ts[1]? = some u) (ht : P.underlying t = some (.slice e))
    {ei : TI} {ie : TypeInfo} (hie : TyOK P ei e ie) (hz : ei.zero.isSome = true) (hs0 : 0 < ei.size) {av : AV} {v : Value} (hv : V G av v) {xs : List AV} {x : Value} {ws : List Value}
    (hxs : TailAt P G w ei.size xs u x ws) {args : Array Value} (ha0 : args[0]? = some v) (ha1 : args[1]? = some x) (e' : TypeId) (muty : Bool) (he' : e' = e) (hGs : G.sz e = ei.size) :
    OpOK P G s w (appendV s e' ei.size ei.bytes ei.agg muty av xs) ((do pure (.value (← Builtin.append_ ts ty args)) : Sem Next).run P w) := by
  unfold appendV
  cases hel : slElems s ei.size ei.agg av with
  | none => trivial
  | some es =>
    obtain ⟨base, cap, vs, hve, hes⟩ := slElems_row hi hv hs0 hie.one hel
    rw [hve] at ha0
    obtain ⟨du, hu, hni⟩ := hxs.desc
    simp only
    split
    · rename_i hbb
      obtain ⟨hb, hb'⟩ := hbb
      split
      · rename_i hx0
        have hx0' : xs = [] := by simpa using hx0
        subst hx0'
        have hws : ws = [] := List.length_eq_zero_iff.1 (by rw [hxs.vl.1]; rfl)
        subst hws
        have hcap : es.length ≤ cap := by
          rcases hes.cells with ⟨_, g1, g2⟩ | _
          · rw [g1, g2]; exact Nat.le_refl _
          · subst hve
            exact hcap_of hv (fun h => by subst h; simp [slElems] at hel) rfl
        subst hve
        refine ValOK.same hi hv (exec_value _ ?_)
        have hst : (match base with | some a => storeCells (a.add (es.length * ei.size)) (#[] : Array Value).toList | none => pure ()).run P w = .ok () w := by
          cases base <;> rfl
        exact append_room_run h0 h1 ht hu hni hie hxs.lenOf (hxs.first w rfl) (by simpa using hcap) ha0 ha1 hst
      · rename_i hx0
        have hxl : 0 < xs.length := by
          cases xs with
          | nil => simp at hx0
          | cons _ _ => simp
        -- where the row does not fit
        have grow : cap < es.length + xs.length → ∀ s1 w1, Post G s w G s1 w1 → w1 = w → OpOK P G s w (.eff (.slice ei.size (.id s1.next) (es ++ xs)) (s1.alloc (.tok e' false))) ((do pure (.value (← Builtin.append_ ts ty args)) : Sem Next).run P w) := by
          intro hg s1 w1 hp1 hw1
          subst hw1
          obtain ⟨v', w', cap', o, r1, r2, rfl, r4, zs, r5, rfl⟩ := append_new (ty := ty) hi h0 h1 ht hie hz hs0 hes hxs hg hb hb' ha0 ha1
          have hsz : ∀ e ∈ es ++ xs, e.cells.length = ei.size := fun e he => by
            rcases List.mem_append.1 he with h | h
            · exact hes.size e h
            · exact hxs.size e h
          obtain ⟨G', q1, q2⟩ := toks_new hp1.inv hs0 (es := es ++ xs) (vs := vs ++ ws) (by rw [List.flatMap_append]; exact hes.vl.append hxs.vl)
            (fun u hu => by rcases List.mem_append.1 hu with h | h; exact hes.one u h; exact hxs.one u h) hsz (cap := cap') (by simpa using r4) (zs := zs) (by simpa using r5) r2
          rw [he']
          exact ⟨_, _, G', .inl (exec_value _ r1), hp1.trans hi q1, by simpa using q2⟩
        have growM : cap < es.length + xs.length → ∀ s1 w1, Post G s w G s1 w1 → w1 = w → OpOK P G s w (.eff (.arr s1.next 0 (es.length + xs.length) none) (s1.alloc (.cells e' ((es ++ xs).flatMap AV.cells)))) ((do pure (.value (← Builtin.append_ ts ty args)) : Sem Next).run P w) := by
          intro hg s1 w1 hp1 hw1
          subst hw1
          obtain ⟨v', w', cap', o, r1, r2, rfl, r4, zs, r5, rfl⟩ := append_new (ty := ty) hi h0 h1 ht hie hz hs0 hes hxs hg hb hb' ha0 ha1
          have hvl : VL G ((es ++ xs).flatMap AV.cells) (vs ++ ws) := by rw [List.flatMap_append]; exact hes.vl.append hxs.vl
          have hlen : (vs ++ ws).length = (es.length + xs.length) * ei.size := by
            have hwl : ws.length = xs.length * ei.size := by rw [hxs.vl.1, flat_length _ _ hxs.size]
            rw [List.length_append, hes.len, hwl, Nat.add_mul]
          obtain ⟨G', q1, q2⟩ := rows_new (s := s1) (el := e) (sz := ei.size) (cs := (es ++ xs).flatMap AV.cells) (ws := (vs ++ ws).toArray ++ zs) (n := es.length + xs.length) (cap := cap') hp1.inv hGs (fun i y z hy hz' => by
            have hlt : i < (vs ++ ws).length := by rw [hvl.1]; exact (List.getElem?_eq_some_iff.1 hy).1
            rw [Array.getElem?_append_left (by simpa using hlt)] at hz'
            have hz2 : (vs ++ ws)[i]? = some z := by simpa using hz'
            refine ⟨hvl.2 i y z hy hz2, ?_⟩
            rcases List.mem_append.1 (List.mem_of_getElem? hz2) with h | h
            · exact hes.one z h
            · exact hxs.one z h) (by rw [← hvl.1, hlen]) r4 (by
              have := Nat.mul_le_mul_right ei.size r4
              rw [Array.size_append, List.size_toArray, hlen, r5, Nat.sub_mul]; omega) (.inr (Nat.le_refl _)) r2
          rw [he']
          exact ⟨_, _, G', .inl (exec_value _ r1), hp1.trans hi q1, q2⟩
        cases hv <;> try trivial
        case nilslice =>
          have hes0 : es = [] := by simpa [slElems] using hel.symm
          subst hes0
          obtain ⟨rfl, -, rfl⟩ := Value.slice.inj hve
          simp only
          split
          · have := growM (by simpa using hxl) s w (Post.refl hi) rfl
            simpa using this
          · have := grow (by simpa using hxl) s w (Post.refl hi) rfl
            simpa using this
        case slice sz' tk es' b o cap' vs' hsz' hes' hl' him hv' h1' hcap hx htk =>
          have hees : es' = es ∧ sz' = ei.size := by
            simp only [slElems] at hel
            split at hel
            · rename_i hz; cases hel; exact ⟨rfl, hz⟩
            · cases hel
          obtain ⟨hees, hsze⟩ := hees
          subst hees
          subst hsze
          obtain ⟨rfl, -, rfl⟩ := Value.slice.inj hve
          cases tk with
          | closed => trivial
          | exact =>
            simp only
            split
            · have hc := hx rfl
              exact growM (by omega) s w (Post.refl hi) rfl
            · have hc := hx rfl
              exact grow (by omega) s w (Post.refl hi) rfl
          | id n =>
            simp only
            split
            · trivial
            · split
              · rename_i el hn
                split
                case isFalse => trivial
                rename_i hele
                subst hele
                rcases htk n rfl with ⟨hl0, hc0⟩ | hgt
                · exact grow (by omega) _ w (Post.extend hi hn) rfl
                · by_cases hroom : es'.length + xs.length ≤ cap'
                  · obtain ⟨b', e1, k1, cur, el2, lo, hh, t1, t2, t3, t4, t5, t6⟩ := hi.tok n _ hn
                    rw [hgt] at t1
                    cases t1
                    obtain ⟨_, _, t7⟩ := hi.tokEl n _ _ _ _ _ hn hgt
                    rw [t2] at t7
                    cases t7
                    have hwl : ws.length = xs.length * ei.size := by rw [hxs.vl.1, flat_length _ _ hxs.size]
                    have hmul : es'.length * ei.size + xs.length * ei.size ≤ cap' * ei.size := by rw [← Nat.add_mul]; exact Nat.mul_le_mul_right _ hroom
                    have hst := run_storeCells_blk (P := P) b (o + es'.length * ei.size) el lo hh ws 0 w cur t2 (by omega) (fun j hj => by omega) hxs.one
                    have hG := Post.tokGrow hi hn hgt t2 ws (by omega)
                    refine ⟨_, _, ((G.addImm b fun i => if o + es'.length * ei.size ≤ i ∧ i < o + es'.length * ei.size + ws.length then ws[i - (o + es'.length * ei.size)]? else G.imm b i).addTok
                      s.next (b, o + es'.length * ei.size + ws.length, o + cap' * ei.size)), .inl (exec_value _ (append_room_run h0 h1 ht hu hni hie hxs.lenOf (hxs.first w rfl) hroom ha0 ha1 (w' := setBlk w b (.cells (arrSet cur (o + es'.length * ei.size + 0) ws) el (lo, hh))) (by simp only [Addr_add]; exact hst))), by simpa using hG, ?_⟩
                    have hvl : VL G ((es' ++ xs).flatMap AV.cells) (vs' ++ ws) := by rw [List.flatMap_append]; exact VL.append ⟨hl', hv'⟩ hxs.vl
                    have hlv : vs'.length = es'.length * ei.size := by rw [hl', flat_length _ _ hes']
                    have hV : V ((G.addImm b fun i => if o + es'.length * ei.size ≤ i ∧ i < o + es'.length * ei.size + ws.length then ws[i - (o + es'.length * ei.size)]? else G.imm b i).addTok
                      s.next (b, o + es'.length * ei.size + ws.length, o + cap' * ei.size)) (.slice ei.size (.id s.next) (es' ++ xs)) (.slice (some ⟨b, o, none⟩) (es' ++ xs).length cap') := by
                      refine .slice ei.size (.id s.next) (es' ++ xs) b o cap' (vs' ++ ws) hs0 (fun e he => ?_) hvl.1 (fun i v hiv => ?_) (hvl.mono hG.le).2 (fun i v hiv => ?_) (by simpa using hroom) (fun h => by cases h) (fun m hm => .inr ?_)
                      · rcases List.mem_append.1 he with h | h
                        · exact hes' e h
                        · exact hxs.size e h
                      · simp only [Gh.addTok, Gh.addImm, if_true]
                        by_cases hi1 : i < vs'.length
                        · rw [List.getElem?_append_left hi1] at hiv
                          rw [if_neg (by omega)]
                          exact him i v hiv
                        · rw [List.getElem?_append_right (by omega)] at hiv
                          have := (List.getElem?_eq_some_iff.1 hiv).1
                          rw [if_pos (by omega), show o + i - (o + es'.length * ei.size) = i - vs'.length by omega]
                          exact hiv
                      · rcases List.mem_append.1 (List.mem_of_getElem? hiv) with h | h
                        · obtain ⟨j, hj, rfl⟩ := List.getElem_of_mem h
                          exact h1' j _ (List.getElem?_eq_getElem hj)
                        · exact hxs.one v h
                      · cases hm
                        simp only [Gh.addTok, if_true, List.length_append, Nat.add_mul, hwl, Nat.add_assoc]
                    rw [List.length_append] at hV
                    exact hV
                  · exact grow (by omega) _ w (Post.extend hi hn) rfl
              · trivial
        case arr r off len cap' co b off' hb2 hc hcap ho hk =>
          simp only
          split
          · rename_i hco
            have hcc := hc _ hco
            obtain ⟨rfl, hlen, rfl⟩ := Value.slice.inj hve
            subst hcc
            split
            · exact growM (by omega) s w (Post.refl hi) rfl
            · exact grow (by omega) s w (Post.refl hi) rfl
          · split
            · rename_i el c hr
              split
              · rename_i hcond
                obtain ⟨hc0, hof, hel', hclen⟩ := hcond
                subst hc0
                subst hof
                subst hel'
                obtain ⟨rfl, hlen, rfl⟩ := Value.slice.inj hve
                subst hlen
                -- the elements are the object's cells
                have hec : es.flatMap AV.cells = c := by
                  simp only [slElems, hr] at hel
                  obtain ⟨l, hl1, hl2⟩ := Option.map_eq_some_iff.1 hel
                  obtain ⟨hl3, hl4⟩ := ltake_spec hl1
                  have hlc : l = c := by rw [hl4, List.drop_zero, List.take_of_length_le (by omega)]
                  subst hlc
                  obtain ⟨b0, o0, e1, e2, e3⟩ := hi.obj r _ hr rfl
                  obtain ⟨us, lo, hh, rfl, g1, g2, g3⟩ := e3
                  have hVL : VL G l (us.toList.take l.length) := by
                    refine ⟨by simp; omega, fun i x v hx hv => ?_⟩
                    rw [List.getElem?_take] at hv
                    split at hv
                    · exact (g2 i x v hx (by simpa using hv)).1
                    · cases hv
                  have hone : ∀ u ∈ us.toList.take l.length, u.oneCell' = true := fun u hu => by
                    obtain ⟨i, hi', rfl⟩ := List.getElem_of_mem hu
                    have hi2 : i < l.length := by simp at hi'; omega
                    have hi3 : i < us.size := by simp at hi'; omega
                    exact (g2 i l[i] _ (List.getElem?_eq_getElem hi2) (by simp [hi3])).2
                  rw [← hl2]
                  exact (groupEls_flat hVL hone hclen hie.one).1
                by_cases hroom : es.length + xs.length ≤ cap'
                · -- in its place
                  obtain ⟨K, k1, k2⟩ := hk rfl
                  have ho0 : off' = 0 := by omega
                  subst ho0
                  have hcK := k2 rfl
                  obtain ⟨⟨us, el1, lo, hh, t2, t3, t4⟩, _⟩ := hi.room b K k1
                  obtain ⟨b0, o0, e1, e2, e3⟩ := hi.obj r _ hr rfl
                  rw [hb2] at e1
                  cases e1
                  rw [t2] at e2
                  cases e2
                  obtain ⟨us', lo', hh', e4, g1, g2, g3⟩ := e3
                  cases e4
                  rw [he', hGs] at t3 t4
                  have hwl : ws.length = xs.length * ei.size := by rw [hxs.vl.1, flat_length _ _ hxs.size]
                  have hmul : es.length * ei.size + xs.length * ei.size ≤ cap' * ei.size := by rw [← Nat.add_mul]; exact Nat.mul_le_mul_right _ hroom
                  have hmK : cap' * ei.size ≤ K * ei.size := Nat.mul_le_mul_right _ hcK
                  have hst := run_storeCells_blk (P := P) b (es.length * ei.size) el lo hh ws 0 w us t2 (by omega) (fun j hj => by omega) hxs.one
                  have hG := Post.growIn (c' := c ++ xs.flatMap AV.cells) (vs' := arrSet us (es.length * ei.size + 0) ws) hi hr hb2 t2 (arrSet_size _ _ _) ⟨_, lo, hh, rfl, by
                    rw [arrSet_size, List.length_append, ← hxs.vl.1, hwl]; omega, fun i x v hx hv => by
                      rw [arrSet_get] at hv
                      by_cases hin : es.length * ei.size ≤ i
                      · rw [List.getElem?_append_right (by omega)] at hx
                        have hi2 := (List.getElem?_eq_some_iff.1 hx).1
                        rw [← hxs.vl.1] at hi2
                        rw [if_pos ⟨by omega, by omega, by omega⟩] at hv
                        rw [hclen] at hx
                        exact ⟨hxs.vl.2 _ x v hx hv, hxs.one v (List.mem_of_getElem? hv)⟩
                      · rw [List.getElem?_append_left (by omega)] at hx
                        rw [if_neg (by omega)] at hv
                        exact g2 i x v hx hv, by rw [List.length_append, ← hxs.vl.1, hwl]; omega⟩
                  refine ⟨_, _, _, .inl (exec_value _ (append_room_run h0 h1 ht hu hni hie hxs.lenOf (hxs.first w rfl) hroom ha0 ha1 (w' := setBlk w b (.cells (arrSet us (es.length * ei.size + 0) ws) el (lo, hh))) (by simp only [Addr_add, Nat.zero_add]; exact hst))), hG, ?_⟩
                  exact .arr _ _ _ _ _ _ _ (by simp [Gh.addBlk]) (fun c h => by cases h) hroom (.inl rfl) (fun _ => ⟨K, k1, fun _ => hcK⟩)
                · have := growM (by omega) (s.del r) w (Post.del hi r) rfl
                  rw [List.flatMap_append, hec] at this
                  exact this
              · trivial
            · trivial
    · trivial
end
end GoE

/- One operation of the model does what the evaluator says: append, make, copy, clear, bytes to text. No condition. -/
namespace GoE
open Go

section
variable {P : Program} {L : Low} {G : Gh} {s : St} {w : World} {tmps : List AV} {a : Act}

theorem bytesAV_cells (l : List UInt8) : (bytesAV l).flatMap AV.cells = bytesAV l := by
  induction l with
  | nil => rfl
  | cons c l ih => simp only [bytesAV, List.map_cons, List.flatMap_cons] at *; rw [ih]; rfl

theorem RowAt.tail {sz : Nat} {xs : List AV} {base : Option Addr} {cap : Nat} {vs : List Value} (h : RowAt G w sz xs base cap vs) {u e : TypeId} (hu : P.underlying u = some (.slice e)) :
    TailAt P G w sz xs u (.slice base xs.length cap) vs :=
  ⟨h.vl, h.one, h.size, ⟨_, hu, fun k hk => by cases hk⟩, rfl, fun w' hw => h.first xs.length hw⟩

theorem firstCells_str (str : ByteArray) (n : Nat) (w' : World) : (Builtin.firstCells 1 n (.string str)).run P w' = .ok (((str.data.toList.take n).map fun c => Value.int .u8 c.toNat).toArray) w' := by
  simp only [Builtin.firstCells, Sem.run_pure]
  congr 1
  apply Array.ext'
  have := ba_extract str 0 n
  simp only [List.drop_zero, Nat.sub_zero] at this
  rw [Array.toList_map, this]

theorem strTail (G : Gh) (w : World) (str : ByteArray) {u : TypeId} (hu : P.underlying u = some .string) :
    TailAt P G w 1 (bytesAV str.data.toList) u (.string str) (str.data.toList.map fun c => Value.int .u8 c.toNat) := by
  refine ⟨by rw [bytesAV_cells]; exact bytesAV_VL G _, fun x hx => ?_, fun e he => ?_, ⟨_, hu, fun k hk => by cases hk⟩, ?_, fun w' _ => ?_⟩
  · obtain ⟨c, _, rfl⟩ := List.mem_map.1 hx; rfl
  · obtain ⟨c, _, rfl⟩ := List.mem_map.1 he; rfl
  · simp [Builtin.lenOf, bytesAV]
  · have hl : (bytesAV str.data.toList).length = str.data.toList.length := by simp [bytesAV]
    rw [hl, firstCells_str, List.take_length]

theorem append_ok (hi : Inv G s w) {ts : Array TypeId} {ty t u e e2 : TypeId} (h0 : ts[0]? = some t) (h1 : ts[1]? = some u) (ht : P.underlying t = some (.slice e)) (hu : P.underlying u = some (.slice e2))
    {ei : TI} {ie : TypeInfo} (hie : TyOK P ei e ie) (hz : ei.zero.isSome = true) (hs0 : 0 < ei.size) {x y : EArg} {v v2 : Value} (hv : V G (x.ev tmps) v) (hv2 : V G (y.ev tmps) v2)
    {args : Array Value} (ha0 : args[0]? = some v) (ha1 : args[1]? = some v2) (muty : Bool) (hGs : G.sz e = ei.size) :
    OpOK P G s w (opV (rtOf P) tmps s (.append e ei.size ei.bytes ei.agg muty x y)) ((do pure (.value (← Builtin.append_ ts ty args)) : Sem Next).run P w) := by
  simp only [opV]
  cases hel : slElems s ei.size ei.agg (y.ev tmps) with
  | none => trivial
  | some xs =>
    obtain ⟨base, cap, vs, rfl, hxs⟩ := slElems_row hi hv2 hs0 hie.one hel
    exact appendV_ok hi h0 h1 ht hie hz hs0 hv (hxs.tail hu) ha0 ha1 e muty rfl hGs

theorem appendStr_ok (hi : Inv G s w) {ts : Array TypeId} {ty t u e : TypeId} (h0 : ts[0]? = some t) (h1 : ts[1]? = some u) (ht : P.underlying t = some (.slice e)) (hu : P.underlying u = some .string)
    {ei : TI} {ie : TypeInfo} (hie : TyOK P ei e ie) (hz : ei.zero.isSome = true) (hs1 : ei.size = 1) (hagg : ei.agg = false) {x y : EArg} {v v2 : Value} (hv : V G (x.ev tmps) v) (hv2 : V G (y.ev tmps) v2)
    {args : Array Value} (ha0 : args[0]? = some v) (ha1 : args[1]? = some v2) (hGs : G.sz e = ei.size) :
    OpOK P G s w (opV (rtOf P) tmps s (.appendStr e ei.bytes x y)) ((do pure (.value (← Builtin.append_ ts ty args)) : Sem Next).run P w) := by
  simp only [opV]
  generalize y.ev tmps = ay at hv2
  cases hv2 <;> try trivial
  rename_i str
  have h := appendV_ok (ty := ty) (xs := bytesAV str.data.toList) hi h0 h1 ht hie hz (by omega) hv (by rw [hs1]; exact strTail G w str hu) ha0 ha1 e false rfl hGs
  rw [hs1, hagg] at h
  exact h

theorem mkS_ok (hi : Inv G s w) {t e : TypeId} {ei : TI} {ie : TypeInfo} (hty : L.ty e = some ei) (hie : TyOK P ei e ie) (hd : P.underlying t = some (.slice e)) {z : List AV} (hz : L.zeroCells e = some z) (hzl : z.length = ei.size)
    (hs0 : ei.size ≠ 0) {x y : EArg} {v v2 : Value} (hv : V G (x.ev tmps) v) (hv2 : V G (y.ev tmps) v2) (muty : Bool) (hGs : G.sz e = ei.size) :
    OpOK P G s w (opV (rtOf P) tmps s (.mkS e ei.size ei.bytes muty z x y)) ((do pure (.value (← Instr.makeSlice t v v2)) : Sem Next).run P w) := by
  obtain ⟨zv, z1, z2, z3, z4⟩ := zeroCells_ok (P := P) (G := G) (w := w) hty hie hz
  simp only [opV]
  generalize x.ev tmps = ax at hv
  generalize y.ev tmps = ay at hv2
  cases hv <;> try trivial
  cases hv2 <;> try trivial
  rename_i kl l kc c
  simp only
  split
  · rename_i hb
    obtain ⟨h0, hlc, hcb, hc1⟩ := hb
    have hzs : zv.cells.size = ei.size := by have := z3.1; simp at this; omega
    have hrun := run_make (P := P) w t e ie zv hd hie.info (by first | exact z2 | (have := z2; simpa using this)) kl kc l c h0 hlc (by rw [hie.bytes, Int.mul_comm]; omega) (by omega)
    have hcells : (madeCells zv.cells (c.toNat * ie.size)).toList = (List.replicate c.toNat zv.cells.toList).flatten := by
      have := replicate_zero zv.cells c.toNat (by omega)
      rw [hie.size, ← hzs]
      exact this
    have hvl : VL G (List.replicate c.toNat z).flatten (madeCells zv.cells (c.toNat * ie.size)).toList := by rw [hcells]; exact VL.replicate z3 _
    have hone : ∀ u ∈ (madeCells zv.cells (c.toNat * ie.size)).toList, u.oneCell' = true := by
      rw [hcells]
      intro u hu
      obtain ⟨l, hl, hu⟩ := List.mem_flatten.1 hu
      rw [List.eq_of_mem_replicate hl] at hu
      exact z4 u hu
    have hp : Pushed w (w.alloc (.cells (madeCells zv.cells (c.toNat * ie.size)) e)) (.cells (madeCells zv.cells (c.toNat * ie.size)) e (0, 0)) := ⟨rfl, rfl, rfl, rfl⟩
    split
    · rename_i hl0
      subst hl0
      split
      · obtain ⟨G', q1, q2⟩ := rows_new (cs := []) (n := 0) (cap := c.toNat) hi hGs (fun i x v hx => by simp at hx) (by simp) (Nat.zero_le _) (by have := congrArg List.length hcells; simp [hzs] at this; simpa using this) (.inr (Nat.le_refl _)) hp
        exact ⟨_, _, G', .inl (exec_value _ hrun), q1, by simpa using q2⟩
      obtain ⟨G', q1, q2⟩ := toks_new (G := G) (sz := ei.size) hi (by omega) (es := []) (vs := []) (VL.nil G) (fun u hu => by cases hu) (fun e he => by cases he) (cap := c.toNat) (Nat.zero_le _)
        (zs := madeCells zv.cells (c.toNat * ie.size)) (by have := congrArg List.length hcells; simp [hzs] at this; simpa using this) (e := e) (w' := w.alloc (.cells (madeCells zv.cells (c.toNat * ie.size)) e)) (by simpa using hp)
      exact ⟨_, _, G', .inl (exec_value _ hrun), q1, by simpa using q2⟩
    · refine ⟨_, _, _, exec_value _ hrun, hp, rfl, fun ρ G' hle hb' => ⟨.arr _ _ _ _ _ _ _ hb' (fun c' h => by cases h; rfl) (by omega) (.inl rfl) (fun h => by cases h), _, 0, 0, rfl, ?_, ?_, .inr (Nat.le_refl _)⟩⟩
      · have := hvl.1; simp at this ⊢; omega
      · exact (hvl.mono hle).cellsAt hone
  · trivial
end
end GoE

/- One operation of the model does what the evaluator says: copy, clear, bytes to text, addresses through unsafe. No condition. -/
namespace GoE
open Go

section
variable {P : Program} {L : Low} {G : Gh} {s : St} {w : World} {tmps : List AV} {a : Act}

theorem RowAt.take {sz : Nat} {es : List AV} {base : Option Addr} {cap : Nat} {vs : List Value} (h : RowAt G w sz es base cap vs) (n : Nat) : RowAt G w sz (es.take n) base cap (vs.take (n * sz)) := by
  refine ⟨?_, fun u hu => h.one u (List.mem_of_mem_take hu), fun e he => h.size e (List.mem_of_mem_take he), ?_⟩
  · rw [flat_take es sz n h.size]; exact h.vl.take _
  · rcases h.cells with ⟨h1, h2, h3⟩ | ⟨b, o, h1, h2⟩
    · exact .inl ⟨h1, by simp [h2], h3⟩
    · refine .inr ⟨b, o, h1, fun i u hu => h2 i u ?_⟩
      rw [List.getElem?_take] at hu
      split at hu
      · exact hu
      · cases hu

/-- A row of cells written through a slice's head. -/
theorem store_arr (hi : Inv G s w) {r off off' b : Nat} {e : TypeId} {c : List AV} (hr : s.heap.get r = some (.cells e c)) (hb : G.blk r = some b) {ds : List AV} {us : List Value} (hd : VL G ds us)
    (h1 : ∀ u ∈ us, u.oneCell' = true) (hfit : off + ds.length ≤ c.length) (ho : off' = off ∨ ds = []) :
    ∃ w', (storeCells ⟨b, off', none⟩ us).run P w = .ok () w' ∧ Post G s w G (s.upd r (.cells e (lsetMany c off ds))) w' := by
  obtain ⟨w', k1, k2⟩ := store_cells (P := P) (off := off) hi hr hb hd h1 hfit
  rcases ho with rfl | h0
  · exact ⟨w', k1, k2⟩
  · have : us = [] := List.length_eq_zero_iff.1 (by rw [hd.1, h0]; rfl)
    subst this
    exact ⟨w', k1, k2⟩

theorem copy_run {ts : Array TypeId} {ty t e : TypeId} (h0 : ts[0]? = some t) (ht : P.underlying t = some (.slice e)) {ei : TI} {ie : TypeInfo} (hie : TyOK P ei e ie) {args : Array Value} {base : Option Addr} {dLen cap : Nat} {x : Value}
    (ha0 : args[0]? = some (.slice base dLen cap)) (ha1 : args[1]? = some x) {n : Nat} {cells : Array Value} (hlen : (Builtin.lenOf x).run P w = .ok n w) (hf : (Builtin.firstCells ei.size (min n dLen) x).run P w = .ok cells w) {w' : World}
    (hs : (match base with | some a => storeCells a cells.toList | none => pure ()).run P w = .ok () w') :
    (Builtin.copy_ ts ty args).run P w = .ok (.int .i64 (min n dLen : Nat)) w' := by
  unfold Builtin.copy_
  have hm : Nat.min n dLen = min n dLen := rfl
  simp only [h0, ha0, ha1, Sem.run_bind, run_underlying ht, Result.andThen_ok, hlen, size_run hie, hm, hf]
  cases base with
  | none => simp at hs; subst hs; simp [goInt]
  | some b =>
    have hst : (storeCells b cells.toList).run P w = .ok () w' := hs
    rw [Sem.run_bind, hst]
    simp [goInt]

theorem copy_ok (hi : Inv G s w) {ts : Array TypeId} {ty t e : TypeId} (h0 : ts[0]? = some t) (ht : P.underlying t = some (.slice e))
    {ei : TI} {ie : TypeInfo} (hie : TyOK P ei e ie) (hs0 : 0 < ei.size) {x y : EArg} {v v2 : Value} (hv : V G (x.ev tmps) v) (hv2 : V G (y.ev tmps) v2)
    {args : Array Value} (ha0 : args[0]? = some v) (ha1 : args[1]? = some v2) :
    OpOK P G s w (opV (rtOf P) tmps s (.copy ei.size ei.agg x y)) ((do pure (.value (← Builtin.copy_ ts ty args)) : Sem Next).run P w) := by
  simp only [opV]
  generalize x.ev tmps = ax at hv
  cases hel : slElems s ei.size ei.agg (y.ev tmps) with
  | none => cases hv <;> trivial
  | some xs =>
    obtain ⟨base, cap, vs, rfl, hxs⟩ := slElems_row hi hv2 hs0 hie.one hel
    cases hv <;> try trivial
    · refine ValOK.same hi (.int .i64 0) (exec_value _ ?_)
      have hf := (hxs.take 0).first (P := P) (w' := w) xs.length rfl
      have := copy_run (w := w) (ty := ty) h0 ht hie ha0 ha1 (n := xs.length) rfl (cells := (vs.take (0 * ei.size)).toArray) (by simpa using hf) (w' := w) (by simp)
      simpa using this
    · rename_i r off n cap' co b off' hb hc hcap ho hk
      simp only
      cases hg : s.heap.get r with
      | none => trivial
      | some ob =>
        cases ob <;> try trivial
        rename_i el c
        simp only
        split
        · rename_i hfit
          have htk := hxs.take n
          have hdl : ((xs.take n).flatMap AV.cells).length ≤ n * ei.size := by
            rw [flat_length _ _ htk.size]
            exact Nat.mul_le_mul_right _ (by simp; omega)
          obtain ⟨w', k1, k2⟩ := store_arr (P := P) (off := off) (off' := off') hi hg hb htk.vl htk.one (by omega) (by
            rcases ho with h | h
            · exact .inl h
            · refine .inr (List.length_eq_zero_iff.1 ?_)
              have : n = 0 := by omega
              subst this
              simp)
          have hf := htk.first (P := P) (w' := w) xs.length rfl
          rw [List.length_take] at hf
          refine ⟨.int .i64 (min xs.length n : Nat), w', G, .inl (exec_value _ (copy_run h0 ht hie ha0 ha1 (n := xs.length) rfl (by rw [Nat.min_comm] at hf; exact hf) k1)), k2, ?_⟩
          rw [show min (n : Int) (xs.length : Int) = ((min xs.length n : Nat) : Int) by omega]
          exact .int _ _
        · trivial

theorem copyStr_ok (hi : Inv G s w) {ts : Array TypeId} {ty t e : TypeId} (h0 : ts[0]? = some t) (ht : P.underlying t = some (.slice e))
    {ei : TI} {ie : TypeInfo} (hie : TyOK P ei e ie) (hs1 : ei.size = 1) {x y : EArg} {v v2 : Value} (hv : V G (x.ev tmps) v) (hv2 : V G (y.ev tmps) v2)
    {args : Array Value} (ha0 : args[0]? = some v) (ha1 : args[1]? = some v2) :
    OpOK P G s w (opV (rtOf P) tmps s (.copyStr x y)) ((do pure (.value (← Builtin.copy_ ts ty args)) : Sem Next).run P w) := by
  simp only [opV]
  generalize x.ev tmps = ax at hv
  generalize y.ev tmps = ay at hv2
  cases hv2 <;> first | (cases hv <;> trivial; done) | skip
  rename_i str
  have hlen : (Builtin.lenOf (.string str)).run P w = .ok str.data.toList.length w := by simp [Builtin.lenOf]
  have hf : ∀ n, (Builtin.firstCells ei.size (min str.data.toList.length n) (.string str)).run P w = .ok (((str.data.toList.take n).map fun c => Value.int .u8 c.toNat).toArray) w := fun n => by
    rw [hs1, firstCells_str, List.take_eq_take_min, Nat.min_comm]
    simp
    exact Nat.min_comm _ _
  cases hv <;> try trivial
  · refine ValOK.same hi (.int .i64 0) (exec_value _ ?_)
    have := copy_run (w := w) (ty := ty) h0 ht hie ha0 ha1 hlen (hf 0) (w' := w) (by simp)
    simpa using this
  · rename_i r off n cap' co b off' hb hc hcap ho hk
    simp only
    cases hg : s.heap.get r with
    | none => trivial
    | some ob =>
      cases ob <;> try trivial
      rename_i el c
      simp only
      split
      · rename_i hfit
        have hdl : (bytesAV (str.data.toList.take n)).length ≤ n := by simp only [bytesAV, List.length_map, List.length_take]; omega
        obtain ⟨w', k1, k2⟩ := store_arr (P := P) (off := off) (off' := off') hi hg hb (bytesAV_VL G (str.data.toList.take n)) (fun u hu => by obtain ⟨c, _, rfl⟩ := List.mem_map.1 hu; rfl) (by omega) (by
          rcases ho with h | h
          · exact .inl h
          · refine .inr (List.length_eq_zero_iff.1 ?_)
            have : n = 0 := by omega
            subst this
            simp [bytesAV])
        refine ⟨.int .i64 (min str.data.toList.length n : Nat), w', G, .inl (exec_value _ (copy_run h0 ht hie ha0 ha1 hlen (hf n) k1)), k2, ?_⟩
        rw [show min (n : Int) (str.data.toList.length : Int) = ((min str.data.toList.length n : Nat) : Int) by omega]
        exact .int _ _
      · trivial

theorem clear_ok (hi : Inv G s w) {ts : Array TypeId} {ty t e : TypeId} (h0 : ts[0]? = some t) (ht : P.underlying t = some (.slice e))
    {ei : TI} {ie : TypeInfo} (hty : L.ty e = some ei) (hie : TyOK P ei e ie) {z : List AV} (hz : L.zeroCells e = some z) (hs0 : ei.size ≠ 0) {x : EArg} {v : Value} (hv : V G (x.ev tmps) v)
    {args : Array Value} (ha0 : args[0]? = some v) :
    OpOK P G s w (opV (rtOf P) tmps s (.clear ei.size z x)) ((do pure (.value (← Builtin.clear_ ts ty args)) : Sem Next).run P w) := by
  obtain ⟨zv, z1, z2, z3, z4⟩ := zeroCells_ok (P := P) (G := G) (w := w) hty hie hz
  have hzs : zv.cells.size = ei.size := hie.zsize zv z2
  have tup : V G (.tuple []) (.tuple #[]) := .tuple [] #[] rfl (fun i c v h => by simp at h)
  simp only [opV]
  generalize x.ev tmps = ax at hv
  cases hv <;> try trivial
  · exact ValOK.same hi tup (exec_value _ (by simp [Builtin.clear_, h0, ha0, run_underlying ht]))
  · rename_i sz tk es b o cap vs hsz hes hl him hv' h1 hcap hx htk
    cases es with
    | cons _ _ => trivial
    | nil => exact ValOK.same hi tup (exec_value _ (by simp [Builtin.clear_, h0, ha0, run_underlying ht]))
  · rename_i r off n cap co b off' hb hc hcap ho hk
    simp only
    cases hg : s.heap.get r with
    | none => trivial
    | some ob =>
      cases ob <;> try trivial
      rename_i el c
      simp only
      split
      · rename_i hfit
        have hcells : (Builtin.zeroCells zv.cells n).toList = (List.replicate n zv.cells.toList).flatten := replicate_zero zv.cells n (by omega)
        have hvl : VL G (List.replicate n z).flatten (Builtin.zeroCells zv.cells n).toList := by rw [hcells]; exact VL.replicate z3 _
        have hzl : z.length = ei.size := by have := z3.1; simp at this; omega
        obtain ⟨w', k1, k2⟩ := store_arr (P := P) (off := off) (off' := off') hi hg hb hvl (fun u hu => by
          rw [hcells] at hu
          obtain ⟨l, hl, hu⟩ := List.mem_flatten.1 hu
          rw [List.eq_of_mem_replicate hl] at hu
          exact z4 u hu) (by rw [replicate_flat_length z n _ hzl]; exact hfit) (by
          rcases ho with h | h
          · exact .inl h
          · refine .inr ?_
            have : n = 0 := by omega
            subst this
            rfl)
        refine ⟨.tuple #[], w', G, .inl (exec_value _ ?_), k2, tup⟩
        cases n with
        | zero =>
          have hw : w' = w := by
            have : (Builtin.zeroCells zv.cells 0).toList = [] := by rw [hcells]; rfl
            rw [this] at k1
            simp [storeCells] at k1
            exact k1.symm
          subst hw
          simp [Builtin.clear_, h0, ha0, run_underlying ht]
        | succ n =>
          simp [Builtin.clear_, h0, ha0, run_underlying ht, z1]
          simp [k1]
      · trivial

theorem avBytes_eq : ∀ (xs : List AV) (l : List UInt8), avBytes xs = some l → xs = bytesAV l
  | [], l, h => by simp only [avBytes, Option.some.injEq] at h; subst h; rfl
  | x :: xs, l, h => by
    unfold avBytes at h
    split at h
    · rename_i e; cases e
    · rename_i n l0 e
      cases e
      split at h
      · rename_i hn
        obtain ⟨l', h1, rfl⟩ := Option.map_eq_some_iff.1 h
        rw [avBytes_eq xs l' h1]
        simp only [bytesAV, List.map_cons]
        congr 2
        have : (UInt8.ofNat n.toNat).toNat = n.toNat := by simp; omega
        rw [this]; omega
      · cases h
    · cases h

theorem VL.bytes : ∀ {l : List UInt8} {vs : List Value}, VL G (bytesAV l) vs → vs = l.map fun c => Value.int .u8 c.toNat
  | [], vs, h => h.nil_inv
  | c :: l, vs, h => by
    obtain ⟨v, ws, rfl, h1, h2⟩ := h.cons_inv
    rw [VL.bytes (l := l) h2]
    cases h1
    rfl

theorem bytesStr_ok (hi : Inv G s w) {src dst e : TypeId} (h1 : P.underlying src = some (.slice e)) (h2 : P.underlying dst = some .string) (h3 : P.underlying e = some (.int .u8)) {x : EArg} {v : Value} (hv : V G (x.ev tmps) v) :
    OpOK P G s w (opV (rtOf P) tmps s (.bytesStr x)) ((do pure (.value (← convert src dst v)) : Sem Next).run P w) := by
  simp only [opV]
  cases hel : (slElems s 1 false (x.ev tmps)).bind avBytes with
  | none => trivial
  | some l =>
    obtain ⟨xs, g1, g2⟩ := Option.bind_eq_some_iff.1 hel
    obtain ⟨base, cap, vs, rfl, hxs⟩ := slElems_row hi hv (by omega) (fun _ => rfl) g1
    have hx := avBytes_eq _ _ g2
    subst hx
    have hvs := hxs.vl
    rw [bytesAV_cells] at hvs
    have hvb := VL.bytes hvs
    have hconv : ∀ x, (convert src dst (.slice base x cap)).run P w = (Conv.bytesToString (.slice base x cap)).run P w := fun x => by
      simp [convert, run_underlying h1, run_underlying h2, run_underlying h3]
    rcases hxs.cells with ⟨rfl, hn, rfl⟩ | ⟨b, o, rfl, hc⟩
    · have hl : l = [] := by
        cases l with
        | nil => rfl
        | cons c l => simp [bytesAV] at hn
      subst hl
      exact ValOK.same hi (.str ByteArray.empty) (exec_value _ (by rw [hconv]; simp [Conv.bytesToString]))
    · have hl : (bytesAV l).length = l.length := by simp [bytesAV]
      have hload := run_loadCells_list (P := P) (w := w) ⟨b, o, none⟩ vs (fun j v hj => by rw [Addr_add]; exact hc j v hj)
      have hvl : vs.length = l.length := by rw [hvb]; simp
      rw [hvl] at hload
      have hrun := run_bytesToString (P := P) w ⟨b, o, none⟩ l.length cap (l.map fun c => (c.toNat : Int)) (by rw [hload, hvb]; simp)
      have hfold : ∀ (l : List UInt8) (r : ByteArray), ((l.map fun c => (c.toNat : Int)).foldl (fun r n => r.push (UInt8.ofNat n.toNat)) r).data.toList = r.data.toList ++ l := by
        intro l
        induction l with
        | nil => intro r; simp
        | cons c l ih => intro r; simp only [List.map_cons, List.foldl_cons]; rw [ih]; simp
      refine ⟨_, w, G, .inl (exec_value _ (by rw [hconv, hl]; exact hrun)), Post.refl hi, ?_⟩
      have := hfold l ByteArray.empty
      simp at this
      have hV := V.str (G := G) ((l.map fun c => (c.toNat : Int)).foldl (fun r n => r.push (UInt8.ofNat n.toNat)) ByteArray.empty)
      rw [show ((l.map fun c => (c.toNat : Int)).foldl (fun r n => r.push (UInt8.ofNat n.toNat)) ByteArray.empty).data.toList = l by simpa using hfold l ByteArray.empty] at hV
      exact hV
end
end GoE

/- One operation of the model does what the evaluator says: unsafe views of bytes, maps, iterators over texts, max and min. No condition. -/
namespace GoE
open Go

section
variable {P : Program} {L : Low} {G : Gh} {s : St} {w : World} {tmps : List AV} {a : Act}

theorem cellsOf_eq {t : TypeId} {ti : TI} {i : TypeInfo} (ht : TyOK P ti t i) : P.cellsOf t = ti.size := by simp [Program.cellsOf, ht.info, ht.size]

/-- Variables of a row's own type lie at any of its elements. -/
theorem liesAt_self {e : TypeId} {sz : Nat} (hc : P.cellsOf e = sz) (h0 : sz ≠ 0) (count i n : Nat) (hn : i + n ≤ count) : liesAt P P.depth e count (i * sz) e n = true := by
  have hd : P.depth = (2 * (P.types.size + Made.depth) + 1) + 1 := rfl
  rw [hd]
  simp only [liesAt, Bool.or_eq_true]
  left
  rw [hd]
  have hdiv : i * sz / sz = i := Nat.mul_div_cancel i (by omega)
  simp [rowAt, hc, h0, hdiv, hn, sameLayout]

theorem shape_of {b : Nat} {vs : Array Value} {e : TypeId} {f : Nat × Nat} (h : w.heap[b]? = some (.cells vs e f)) : w.shape? b = some (e, vs.size) := by simp [World.shape?, h]

theorem rowAt_count (fits : TypeId → Bool) (d : Nat) (e : TypeId) (count off n : Nat) (hc : n ≤ count) (h1 : 1 ≤ count) (ho : off < P.cellsOf e) (h : rowAt P fits d e n off n = true ∨ rowAt P fits d e 1 off n = true) :
    rowAt P fits d e count off n = true := by
  cases d with
  | zero => rcases h with h | h <;> simp [rowAt] at h
  | succ d =>
    have hi : off / P.cellsOf e = 0 := Nat.div_eq_of_lt ho
    have key : ∀ c, c ≤ count → rowAt P fits (d + 1) e c off n = true → rowAt P fits (d + 1) e count off n = true := by
      intro c hc' h
      simp only [rowAt, hi] at h ⊢
      split at h
      · cases h
      · rename_i h0
        rw [if_neg h0]
        simp only [Bool.or_eq_true, Bool.and_eq_true, decide_eq_true_eq] at h ⊢
        rcases h with ⟨⟨g1, g2⟩, g3⟩ | ⟨g1, g2⟩
        · exact .inl ⟨⟨g1, by omega⟩, g3⟩
        · exact .inr ⟨by omega, g2⟩
    rcases h with h | h
    · exact key n hc h
    · exact key 1 h1 h

theorem liesAt_count {e u : TypeId} {off : Nat} (ho : off < P.cellsOf e) (count : Nat) (h1 : 1 ≤ count) : ∀ (d n : Nat), n ≤ 1 → liesAt P d e 1 off u n = true → (∀ m u', P.underlying u ≠ some (.array m u')) → liesAt P d e count off u n = true := by
  intro d n hn h hna
  cases d with
  | zero => simp [liesAt] at h
  | succ d =>
    simp only [liesAt, Bool.or_eq_true] at h ⊢
    rcases h with h | h
    · exact .inl (rowAt_count _ _ _ _ _ _ (by omega) h1 ho (.inr h))
    · first
        | (cases h; done)
        | (split at h
           · rename_i m u' hu; exact absurd hu (hna m u')
           · cases h)

theorem cast_ok (hi : Inv G s w) (hL : LowOK P L) {src dst t : TypeId} (hd : (P.underlying src = some (.pointer t) ∧ P.underlying dst = some .unsafePointer) ∨ (P.underlying src = some .unsafePointer ∧ P.underlying dst = some (.pointer t)))
    {ti : TI} {i : TypeInfo} (ht : TyOK P ti t i) (hs0 : ti.size ≠ 0) (hna : ∀ m u', ti.desc ≠ .array m u') {x : EArg} {v : Value} (hv : V G (x.ev tmps) v) :
    OpOK P G s w (opV (rtOf P) tmps s (.cast (L.lies t) x)) ((do pure (.value (← convert src dst v)) : Sem Next).run P w) := by
  simp only [opV]
  generalize x.ev tmps = ax at hv
  cases hv <;> try trivial
  · refine ValOK.same hi .nilptr (exec_value _ ?_)
    rcases hd with ⟨h1, h2⟩ | ⟨h1, h2⟩ <;> simp [convert, run_underlying h1, run_underlying h2, Conv.unsafePointer]
  · rename_i r off b hb
    simp only
    cases hg : s.heap.get r with
    | none => trivial
    | some ob =>
      cases ob <;> try trivial
      rename_i e c
      simp only
      split
      · rename_i hh
        obtain ⟨⟨e', n, o⟩, hmem, hh⟩ := List.any_eq_true.1 hh
        simp only [Bool.and_eq_true, decide_eq_true_eq] at hh
        obtain ⟨⟨rfl, rfl⟩, hc⟩ := hh
        obtain ⟨l1, l2, l3⟩ := hL.lies _ _ _ _ hmem
        obtain ⟨b', o', e1, e2, e3⟩ := hi.obj r _ hg rfl
        rw [hb] at e1; cases e1
        obtain ⟨vs, lo, hh, rfl, g1, g2, g3⟩ := e3
        refine ValOK.same hi (.ptr r o b hb) (exec_value _ ?_)
        have hsh := shape_of e2
        rcases hd with ⟨h1, h2⟩ | ⟨h1, h2⟩
        · exact Lib.run_to_unsafe w ⟨b, o, none⟩ h1 h2 ht.info (by rw [ht.size]; exact hs0) hsh (show o < vs.size by omega)
        · refine Lib.run_from_unsafe w ⟨b, o, none⟩ h1 h2 ht.info hsh ?_
          exact liesAt_count (by rw [l1]; exact l2) _ (Nat.div_pos (by rw [l1]; omega) (by rw [l1]; omega)) _ 1 (Nat.le_refl _) l3 (fun m u' hu => hna m u' (by rw [ht.desc] at hu; exact Option.some.inj hu))
      · trivial

theorem usd_ok (hi : Inv G s w) {ts : Array TypeId} {ty : TypeId} {x : EArg} {v : Value} (hv : V G (x.ev tmps) v) :
    OpOK P G s w (opV (rtOf P) tmps s (.usd x)) ((do pure (.value (← Builtin.unsafeSliceData_ ts ty #[v])) : Sem Next).run P w) := by
  simp only [opV]
  generalize x.ev tmps = ax at hv
  cases hv <;> try trivial
  · exact ValOK.same hi .nilptr (exec_value _ rfl)
  · rename_i sz tk es b o cap vs hsz hes hl him hv' h1 hcap hx htk
    split
    · trivial
    · rename_i r e es' heq
      cases heq
      have hc : cap ≠ 0 := by simp at hcap; omega
      rcases htk r rfl with ⟨h0, _⟩ | hg
      · simp at h0
      · refine ValOK.same hi (.tptr r _ b o (o + cap * 1) vs hl ?_ him hv' h1) (exec_value _ (Lib.run_unsafeSliceData_row w ts ty ⟨b, o, none⟩ _ cap hc))
        rw [flat_length _ _ hes]
        exact hg
    · trivial

theorem us_def (ts : Array TypeId) (ty : TypeId) (p : Option Addr) (len_ : Value) : Builtin.unsafeString_ ts ty #[.pointer p, len_] = (do
    let n ← asInt len_
    let some pt := ts[0]? | stuck "unsafe.String: no argument types"
    if n < 0 then runtimePanic (.error "unsafe.String: len out of range")
    if n > IntKind.i64.max then unsupported (.unsafePointer "String: a length above the largest int")
    match p with
    | none =>
      if n = 0 then pure (.string .empty)
      else runtimePanic (.error "unsafe.String: ptr is nil and len is not zero")
    | some a =>
      if n = 0 then pure (.string .empty)
      else if ← variablesAt a (← elemOf pt) n.toNat then do
        let s ← loadBytes a .empty n.toNat
        freeze a n.toNat
        pure (.string s)
      else unsupported (.unsafePointer "String: not so many bytes at ptr")) := rfl

theorem us_run (pt _it ty e : TypeId) (hp : P.underlying pt = some (.pointer e)) (hc : P.cellsOf e = 1) (g o cells : Nat) (k : IntKind) (hsh : w.shape? g = some (e, cells)) (l : List UInt8) (h0 : l ≠ []) (hn : o + l.length ≤ cells) (h63 : l.length ≤ 9223372036854775807)
    (hcell : ∀ j x, l[j]? = some x → w.cell? ((⟨g, o, none⟩ : Addr).add j) = some (.int .u8 x.toNat)) {ts : Array TypeId} (hts : ts[0]? = some pt) :
    (Builtin.unsafeString_ ts ty #[.pointer (some ⟨g, o, none⟩), .int k l.length]).run P w = .ok (.string ⟨l.toArray⟩) (w.freeze ⟨g, o, none⟩ l.length) := by
  have hl : l.length ≠ 0 := by simpa using h0
  have hlb := Lib.run_loadBytes (P := P) w l ⟨g, o, none⟩ .empty hcell
  have hlies := liesAt_self (P := P) hc (by omega) (cells / P.cellsOf e) o l.length (by rw [hc]; simpa using hn)
  rw [Nat.mul_one] at hlies
  have h63' : ¬ (9223372036854775807 : Int) < (l.length : Int) := by omega
  have hmax : IntKind.i64.max = 9223372036854775807 := rfl
  have hneg : ¬ (l.length : Int) < 0 := by omega
  simp [us_def, hts, asInt, asIntOf, hmax, h63', hneg, hl, variablesAt, hsh, elemOf, run_underlying hp, hlies, hlb]

theorem us_ok (hi : Inv G s w) {ts : Array TypeId} {pt e ty : TypeId} (hts : ts[0]? = some pt) (hp : P.underlying pt = some (.pointer e)) {ei : TI} {ie : TypeInfo} (hie : TyOK P ei e ie) (hs1 : ei.size = 1)
    {x y : EArg} {v v2 : Value} (hv : V G (x.ev tmps) v) (hv2 : V G (y.ev tmps) v2) :
    OpOK P G s w (opV (rtOf P) tmps s (.us e x y)) ((do pure (.value (← Builtin.unsafeString_ ts ty #[v, v2])) : Sem Next).run P w) := by
  simp only [opV]
  generalize x.ev tmps = ax at hv
  generalize y.ev tmps = ay at hv2
  have hmax : IntKind.i64.max = 9223372036854775807 := rfl
  cases hv <;> try trivial
  · cases hv2 <;> try trivial
    rename_i k n
    split <;> try trivial
    · rename_i heq
      cases heq
      refine ValOK.same hi (.str ByteArray.empty) (exec_value _ ?_)
      simp [us_def, hts, asInt, asIntOf, hmax]
  · rename_i r cells b o k vs hl ht him hv' h1
    cases hv2 <;> try trivial
    rename_i kk n
    simp only
    cases hg : s.heap.get r with
    | none => trivial
    | some ob =>
      cases ob <;> try trivial
      rename_i el ext
      simp only
      split
      · rename_i hh
        obtain ⟨rfl, hel, hbig⟩ := hh
        subst hel
        cases hab : avBytes cells with
        | none => trivial
        | some l =>
          simp only
          have hcs := avBytes_eq _ _ hab
          subst hcs
          have hll : (bytesAV l).length = l.length := by simp [bytesAV]
          have hvb := VL.bytes (G := G) (l := l) (vs := vs) ⟨hl, hv'⟩
          have hcell : ∀ j x, l[j]? = some x → w.cell? ((⟨b, o, none⟩ : Addr).add j) = some (.int .u8 x.toNat) := fun j x hj => by
            rw [Addr_add]
            exact hi.imm b (o + j) _ (him j _ (by rw [hvb]; simp [hj]))
          obtain ⟨bs, f, hblk⟩ := hi.tokEl r el ext b _ k hg ht
          have hsh := shape_of hblk
          by_cases h0 : l = []
          · subst h0
            refine ValOK.same hi (.str ByteArray.empty) (exec_value _ ?_)
            simp [us_def, hts, asInt, asIntOf, hmax, bytesAV]
          · have hfit : o + l.length ≤ bs.size := by
              have hlt : l.length - 1 < l.length := by have : l.length ≠ 0 := by simpa using h0
                                                       omega
              have := hcell (l.length - 1) l[l.length - 1] (List.getElem?_eq_getElem hlt)
              rw [Addr_add, cell_cells hblk] at this
              have := (Array.getElem?_eq_some_iff.1 this).1
              omega
            rw [hll] at ht hbig ⊢
            have hrun := us_run (w := w) pt 0 ty el hp (by rw [cellsOf_eq hie]; exact hs1) b o bs.size kk hsh l h0 hfit (by omega) hcell hts
            refine ⟨_, _, G, .inl (exec_value _ hrun), Post.freeze hi ht rfl, ?_⟩
            exact .str ⟨l.toArray⟩
      · trivial

theorem maxmin_ok (_hi : Inv G s w) (mx : Bool) {x : EArg} {xs : List EArg} {v : Value} {vs : List Value} (hv : V G (x.ev tmps) v) (hvs : VL G (xs.map (EArg.ev tmps)) vs) {args : Array Value} (ha : args.toList = v :: vs)
    {ts : Array TypeId} {ty : TypeId} : PureOK P G s w (opV (rtOf P) tmps s (.maxmin mx x xs)) (if mx then Builtin.max_ ts ty args else Builtin.min_ ts ty args) := by
  simp only [opV]
  generalize x.ev tmps = ax at hv
  generalize xs.map (EArg.ev tmps) = axs at hvs
  cases hv <;> try trivial
  rename_i k n
  have key : ∀ (axs : List AV) (vs : List Value) (n : Int), VL G axs vs → PureOK P G s w (opV.mmFold mx k n axs) (if mx then vs.foldlM Builtin.max2 (.int k n) else vs.foldlM Builtin.min2 (.int k n)) := by
    intro axs
    induction axs with
    | nil =>
      intro vs n h
      rw [h.nil_inv]
      exact ⟨_, by cases mx <;> simp, .int _ _⟩
    | cons c cs ih =>
      intro vs n h
      obtain ⟨u, ws, rfl, h1, h2⟩ := h.cons_inv
      cases h1 <;> try trivial
      rename_i k2 m
      have := ih ws (if mx then (if m > n then m else n) else (if m < n then m else n)) h2
      simp only [opV.mmFold]
      cases mx
      · simpa [Builtin.min2] using this
      · simpa [Builtin.max2] using this
  have := key axs vs n hvs
  cases mx
  · simpa [Builtin.min_, ha] using this
  · simpa [Builtin.max_, ha] using this

/-! Maps. -/

def KeyD (kt : CK) (d : TypeDesc) : Prop := (kt = .i ∧ ∃ k, d = .int k) ∨ (kt = .s ∧ d = .string)

theorem checkKey_run {kt : CK} {t : TypeId} {d : TypeDesc} (hd : P.underlying t = some d) (hk : KeyD kt d) (e : Bool) (n : Nat) (v : Value) : (Instr.checkKey e (n + 1) t v).run P w = .ok () w := by
  unfold Instr.checkKey
  rcases hk with ⟨_, k, rfl⟩ | ⟨_, rfl⟩ <;> simp [run_underlying hd]

def FindRel (G : Gh) : Option (Nat × AV) → Option (Nat × Value) → Prop
  | none, none => True
  | some (i, x), some (j, v) => i = j ∧ V G x v
  | _, _ => False

theorem find_rel {kt : CK} {d : TypeDesc} (hk : KeyD kt d) {k : AV} {kv : Value} (hkv : V G k kv) : ∀ (es : List MEnt) (ms : List MapEntry) (i : Nat) (r : Option (Nat × AV)), ms.length = es.length →
    (∀ (i : Nat) (x : MEnt) (m : MapEntry), es[i]? = some x → ms[i]? = some m → V G x.key m.key ∧ V G x.val m.val) → findKey kt k es i = some r →
    ∃ r', Instr.findNow d kv ms i = some r' ∧ FindRel G r r'
  | [], ms, i, r, hl, _, h => by
    have : ms = [] := List.length_eq_zero_iff.1 (by simpa using hl)
    subst this
    simp only [findKey, Option.some.injEq] at h
    subst h
    exact ⟨none, rfl, trivial⟩
  | e :: es, ms, i, r, hl, hrel, h => by
    cases ms with
    | nil => simp at hl
    | cons m ms =>
      obtain ⟨h1, h2⟩ := hrel 0 e m (by simp) (by simp)
      simp only [findKey] at h
      have same : ∀ b, eqC kt k e.key = some b → Instr.sameNow d kv m.key = some b := by
        intro b hb
        rcases hk with ⟨rfl, kk, rfl⟩ | ⟨rfl, rfl⟩
        · cases hkv <;> simp only [eqC] at hb <;> try (cases hb; done)
          generalize e.key = ek at h1 hb
          generalize m.key = mk at h1 ⊢
          cases h1 <;> simp only at hb <;> try (cases hb; done)
          rename_i k1 n1 k2 n2
          simp only [Instr.sameNow]
          split at hb
          · rename_i hkk
            subst hkk
            cases hb
            simp only [if_true, Option.some.injEq]
            rw [Bool.eq_iff_iff]
            simp
          · cases hb
        · cases hkv <;> simp only [eqC] at hb <;> try (cases hb; done)
          generalize e.key = ek at h1 hb
          generalize m.key = mk at h1 ⊢
          cases h1 <;> simp only at hb <;> try (cases hb; done)
          rename_i s1 s2
          simp only [Instr.sameNow]
          cases hb
          congr 1
          rw [Bool.eq_iff_iff]
          rw [MapKept.bytes_beq, decide_eq_true_eq]
          exact ⟨fun h => by rw [h], fun h => ByteArray.ext (Array.ext' h)⟩
      cases hb : eqC kt k e.key with
      | none => simp [hb] at h
      | some b =>
        have hs := same b hb
        rw [hb] at h
        cases b with
        | true =>
          simp only [Option.some.injEq] at h
          subst h
          exact ⟨some (i, m.val), by simp [Instr.findNow, hs], rfl, h2⟩
        | false =>
          obtain ⟨r', k1, k2⟩ := find_rel hk hkv es ms (i + 1) r (by simpa using hl) (fun j x y hx hy => hrel (j + 1) x y (by simpa using hx) (by simpa using hy)) h
          exact ⟨r', by simp [Instr.findNow, hs, k1], k2⟩

theorem mapObj (hi : Inv G s w) {r b : Nat} {es : List MEnt} (hg : s.heap.get r = some (.mapo es)) (hb : G.blk r = some b) :
    ∃ (ms : Array MapEntry) (clock : Nat), w.heap[b]? = some (.map ms clock) ∧ ms.size = es.length ∧ ∀ (i : Nat) (x : MEnt) (m : MapEntry), es[i]? = some x → ms[i]? = some m → V G x.key m.key ∧ V G x.val m.val := by
  obtain ⟨b', o, e1, e2, e3⟩ := hi.obj r _ hg rfl
  rw [hb] at e1; cases e1
  obtain ⟨ms, clock, rfl, h1, h2⟩ := e3
  exact ⟨ms, clock, e2, h1, h2⟩

theorem lenM_ok (hi : Inv G s w) {ts : Array TypeId} {ty t kt e : TypeId} (ht : ts[0]? = some t) {x : EArg} {v : Value} (hv : V G (x.ev tmps) v) {args : Array Value} (ha : args[0]? = some v)
    (hd : P.underlying t = some (.map kt e)) : OpOK P G s w (opV (rtOf P) tmps s (.lenM x)) ((do pure (.value (← Builtin.len_ ts ty args)) : Sem Next).run P w) := by
  simp only [opV]
  generalize x.ev tmps = av at hv
  cases hv <;> try trivial
  · rename_i r b hb
    simp only
    cases hg : s.heap.get r with
    | none => trivial
    | some ob =>
      cases ob <;> try trivial
      rename_i es
      obtain ⟨ms, clock, h1, h2, h3⟩ := mapObj hi hg hb
      refine ValOK.same hi (.int .i64 es.length) (exec_value _ ?_)
      simp [Builtin.len_, ht, ha, run_underlying hd, MapKept.run_getObj_map h1, h2, goInt]
  · exact ValOK.same hi (.int .i64 0) (exec_value _ (by simp [Builtin.len_, ht, ha, run_underlying hd, goInt]))

theorem tuple2 {x : AV} {v : Value} (h : V G x v) (b : Bool) : V G (.tuple [x, .bool b]) (.tuple #[v, .bool b]) := by
  refine .tuple _ _ rfl (fun i c u hc hu => ?_)
  match i with
  | 0 => simp at hc hu; subst hc; subst hu; exact h
  | 1 => simp at hc hu; subst hc; subst hu; exact .bool b
  | n + 2 => simp at hc

theorem lookup_ok (hi : Inv G s w) {t kt e : TypeId} (hd : P.underlying t = some (.map kt e)) {d : TypeDesc} (hkd : P.underlying kt = some d) {ck : CK} (hk : KeyD ck d) {ei : TI} {ie : TypeInfo} (hie : TyOK P ei e ie) {z : AV}
    (hz : ei.zero = some z) {x y : EArg} {v v2 : Value} (hv : V G (x.ev tmps) v) (hv2 : V G (y.ev tmps) v2) (ok : Bool) :
    OpOK P G s w (opV (rtOf P) tmps s (.lookup ck z ok x y)) ((do pure (.value (← Instr.lookup t v v2 ok)) : Sem Next).run P w) := by
  obtain ⟨zv, z1, z2, z3⟩ := zero_run (P := P) (G := G) (w := w) hie hz
  have out : ∀ {a : AV} {u : Value} (_ : V G a u) (b : Bool), V G (if ok then .tuple [a, .bool b] else a) (if ok then .tuple #[u, .bool b] else u) := fun h b => by
    cases ok
    · exact h
    · exact tuple2 h b
  simp only [opV]
  generalize x.ev tmps = ax at hv
  generalize y.ev tmps = ay at hv2
  cases hv <;> try trivial
  · rename_i r b hb
    simp only
    cases hg : s.heap.get r with
    | none => trivial
    | some ob =>
      cases ob <;> try trivial
      rename_i es
      obtain ⟨ms, clock, h1, h2, h3⟩ := mapObj hi hg hb
      simp only
      cases hf : findKey ck ay es 0 with
      | none => trivial
      | some fr =>
        obtain ⟨fr', f1, f2⟩ := find_rel hk hv2 es ms.toList 0 fr (by simpa using h2) (fun i x m hx hm => h3 i x m hx (by simpa using hm)) hf
        have hfk := MapKept.run_findKey (P := P) (w := w) hkd f1
        cases fr with
        | none =>
          cases fr' with
          | some _ => exact f2.elim
          | none =>
            refine ValOK.same hi (out z2 false) (exec_value _ ?_)
            simp [Instr.lookup, run_underlying hd, MapKept.run_getObj_map h1, checkKey_run hkd hk, hfk, z1]
        | some p =>
          obtain ⟨i, av⟩ := p
          cases fr' with
          | none => exact f2.elim
          | some q =>
            obtain ⟨j, u⟩ := q
            obtain ⟨rfl, hu⟩ := f2
            refine ValOK.same hi (out hu true) (exec_value _ ?_)
            simp [Instr.lookup, run_underlying hd, MapKept.run_getObj_map h1, checkKey_run hkd hk, hfk]
  · refine ValOK.same hi (out z2 false) (exec_value _ ?_)
    have hfk := MapKept.run_findKey (P := P) (w := w) (k := v2) (l := []) hkd rfl
    simp [Instr.lookup, run_underlying hd, checkKey_run hkd hk, hfk, z1]

theorem find_at {d : TypeDesc} {k : Value} : ∀ (l : List MapEntry) (i j : Nat) (u : Value), Instr.findNow d k l i = some (some (j, u)) → ∃ e, i ≤ j ∧ l[j - i]? = some e ∧ Instr.sameNow d k e.key = some true
  | [], i, j, u, h => by simp [Instr.findNow] at h
  | e :: es, i, j, u, h => by
    simp only [Instr.findNow] at h
    split at h
    · rename_i hs
      simp only [Option.some.injEq, Prod.mk.injEq] at h
      obtain ⟨rfl, _⟩ := h
      exact ⟨e, Nat.le_refl _, by simp, hs⟩
    · obtain ⟨e', h1, h2, h3⟩ := find_at es (i + 1) j u h
      refine ⟨e', by omega, ?_, h3⟩
      rw [show j - i = (j - (i + 1)) + 1 by omega]
      simpa using h2
    · cases h

theorem stays {ck : CK} {d : TypeDesc} (hk : KeyD ck d) {k old : Value} (h : Instr.sameNow d k old = some true) : (Instr.keyThatStays old k).run P w = .ok k w := by
  have : Instr.sameBits 10000 old k = true := by
    rcases hk with ⟨_, kk, rfl⟩ | ⟨_, rfl⟩
    · unfold Instr.sameNow at h
      split at h <;> try (cases h; done)
      · split at h
        · rename_i hkk
          subst hkk
          simp only [Option.some.injEq, beq_iff_eq] at h
          subst h
          simp [Instr.sameBits]
        · cases h
      all_goals (rename_i heq; cases heq)
    · unfold Instr.sameNow at h
      split at h <;> try (cases h; done)
      all_goals (try (rename_i heq; cases heq; done))
      simp only [Option.some.injEq] at h
      have := (MapKept.bytes_beq _ _).1 h
      subst this
      simp [Instr.sameBits]
      exact (MapKept.bytes_beq _ _).2 rfl
  simp [Instr.keyThatStays, this]

theorem mapUpd_ok (hi : Inv G s w) {t kt e : TypeId} (hd : P.underlying t = some (.map kt e)) {d : TypeDesc} (hkd : P.underlying kt = some d) {ck : CK} (hk : KeyD ck d)
    {x y z : EArg} {v v2 v3 : Value} (hv : V G (x.ev tmps) v) (hv2 : V G (y.ev tmps) v2) (hv3 : V G (z.ev tmps) v3) :
    OpOK P G s w (opV (rtOf P) tmps s (.mapUpd ck x y z)) ((do Instr.mapUpdate t v v2 v3; pure .skip : Sem Next).run P w) := by
  simp only [opV]
  generalize x.ev tmps = ax at hv
  generalize y.ev tmps = ay at hv2
  generalize z.ev tmps = az at hv3
  cases hv <;> try trivial
  · rename_i r b hb
    simp only
    cases hg : s.heap.get r with
    | none => trivial
    | some ob =>
      cases ob <;> try trivial
      rename_i es
      obtain ⟨ms, clock, h1, h2, h3⟩ := mapObj hi hg hb
      simp only
      cases hf : findKey ck ay es 0 with
      | none => trivial
      | some fr =>
        obtain ⟨fr', f1, f2⟩ := find_rel hk hv2 es ms.toList 0 fr (by simpa using h2) (fun i x m hx hm => h3 i x m hx (by simpa using hm)) hf
        have hfk := MapKept.run_findKey (P := P) (w := w) hkd f1
        cases fr with
        | none =>
          cases fr' with
          | some _ => exact f2.elim
          | none =>
            have hrel : ObjRel G (.mapo (es ++ [⟨ay, az⟩])) (.map (ms.push { key := v2, val := v3, born := clock }) (clock + 1)) := by
              refine ⟨_, _, rfl, by simp [h2], fun i x m hx hm => ?_⟩
              by_cases hlt : i < es.length
              · rw [List.getElem?_append_left hlt] at hx
                rw [Array.getElem?_push, if_neg (by omega)] at hm
                exact h3 i x m hx hm
              · rw [List.getElem?_append_right (by omega)] at hx
                have hi0 : i = es.length := by
                  cases hq : i - es.length with
                  | zero => omega
                  | succ n => rw [hq] at hx; simp at hx
                subst hi0
                rw [Array.getElem?_push, if_pos h2.symm] at hm
                simp at hx hm
                subst hx; subst hm
                exact ⟨hv2, hv3⟩
            refine ⟨_, _, G, .inr ⟨?_, rfl⟩, Post.write hi hg rfl hb rfl hrel (fun vs' el' f' hw' => by first | (rw [h1] at hw'; cases hw') | (rw [e2] at hw'; cases hw')), .undef⟩
            simp [Instr.mapUpdate, run_underlying hd, MapKept.run_getObj_map h1, checkKey_run hkd hk, hfk, MapKept.run_setObj_map _ h1]
            rfl
        | some p =>
          obtain ⟨i, av⟩ := p
          cases fr' with
          | none => exact f2.elim
          | some q =>
            obtain ⟨j, u⟩ := q
            obtain ⟨rfl, hu⟩ := f2
            obtain ⟨e0, _, g1, g2⟩ := find_at _ _ _ _ f1
            have g1' : ms[i]? = some e0 := by simpa using g1
            have hst := stays (P := P) (w := w) hk g2
            have hrel : ObjRel G (.mapo (lset es i ⟨ay, az⟩)) (.map (ms.modify i fun e => { e with key := v2, val := v3 }) clock) := by
              refine ⟨_, _, rfl, by simp [lset_eq, h2], fun j x m hx hm => ?_⟩
              rw [lset_eq] at hx
              rw [Array.getElem?_modify] at hm
              by_cases hij : i = j
              · subst hij
                rw [if_pos rfl, g1'] at hm
                have hlt : i < es.length := by rw [← h2]; exact (Array.getElem?_eq_some_iff.1 g1').1
                rw [List.getElem?_set_self hlt] at hx
                simp at hx hm
                subst hx; subst hm
                exact ⟨hv2, hv3⟩
              · rw [if_neg hij] at hm
                rw [List.getElem?_set_ne hij] at hx
                exact h3 j x m hx hm
            refine ⟨_, _, G, .inr ⟨?_, rfl⟩, Post.write hi hg rfl hb rfl hrel (fun vs' el' f' hw' => by first | (rw [h1] at hw'; cases hw') | (rw [e2] at hw'; cases hw')), .undef⟩
            simp [Instr.mapUpdate, run_underlying hd, MapKept.run_getObj_map h1, checkKey_run hkd hk, hfk, g1', hst, MapKept.run_setObj_map _ h1]
            rfl
  · refine ⟨.iface P.rt.plainError (strVal "assignment to entry in nil map"), w, G, ?_, Post.refl hi, .iface _ _ _ (.junk _)⟩
    simp [Instr.mapUpdate, run_underlying hd, runtimePanic]

theorem delete_ok (hi : Inv G s w) {ts : Array TypeId} {ty t kt e : TypeId} (h0 : ts[0]? = some t) (hd : P.underlying t = some (.map kt e)) {d : TypeDesc} (hkd : P.underlying kt = some d) {ck : CK} (hk : KeyD ck d)
    {x y : EArg} {v v2 : Value} (hv : V G (x.ev tmps) v) (hv2 : V G (y.ev tmps) v2) {args : Array Value} (ha0 : args[0]? = some v) (ha1 : args[1]? = some v2) :
    OpOK P G s w (opV (rtOf P) tmps s (.delete ck x y)) ((do pure (.value (← Builtin.delete_ ts ty args)) : Sem Next).run P w) := by
  have tup : V G (.tuple []) (.tuple #[]) := .tuple [] #[] rfl (fun i c v h => by simp at h)
  simp only [opV]
  generalize x.ev tmps = ax at hv
  generalize y.ev tmps = ay at hv2
  cases hv <;> try trivial
  · rename_i r b hb
    simp only
    cases hg : s.heap.get r with
    | none => trivial
    | some ob =>
      cases ob <;> try trivial
      rename_i es
      obtain ⟨ms, clock, h1, h2, h3⟩ := mapObj hi hg hb
      simp only
      cases hf : findKey ck ay es 0 with
      | none => trivial
      | some fr =>
        obtain ⟨fr', f1, f2⟩ := find_rel hk hv2 es ms.toList 0 fr (by simpa using h2) (fun i x m hx hm => h3 i x m hx (by simpa using hm)) hf
        have hfk := MapKept.run_findKey (P := P) (w := w) hkd f1
        cases fr with
        | none =>
          cases fr' with
          | some _ => exact f2.elim
          | none =>
            refine ValOK.same hi tup (exec_value _ ?_)
            simp [Builtin.delete_, h0, ha0, ha1, run_underlying hd, MapKept.run_getObj_map h1, checkKey_run hkd hk, hfk, MapKept.run_setObj_map _ h1]
            exact setBlk_self w b _ h1
        | some p =>
          obtain ⟨i, av⟩ := p
          cases fr' with
          | none => exact f2.elim
          | some q =>
            obtain ⟨j, u⟩ := q
            obtain ⟨rfl, hu⟩ := f2
            obtain ⟨e0, _, g1, g2⟩ := find_at _ _ _ _ f1
            have hlt : i < ms.size := by
              have := (List.getElem?_eq_some_iff.1 g1).1
              simpa using this
            have hrel : ObjRel G (.mapo (es.eraseIdx i)) (.map (ms.eraseIdxIfInBounds i) clock) := by
              have hto : (ms.eraseIdxIfInBounds i).toList = ms.toList.eraseIdx i := by simp [Array.eraseIdxIfInBounds, hlt]
              refine ⟨_, _, rfl, ?_, fun j x m hx hm => ?_⟩
              · have := congrArg List.length hto
                simp only [Array.length_toList, List.length_eraseIdx] at this ⊢
                rw [this, h2]
              · have hm' : (ms.toList.eraseIdx i)[j]? = some m := by rw [← hto, Array.getElem?_toList]; exact hm
                rw [List.getElem?_eraseIdx] at hx hm'
                split at hx
                · rename_i hj
                  rw [if_pos hj] at hm'
                  exact h3 j x m hx (by simpa using hm')
                · rename_i hj
                  rw [if_neg hj] at hm'
                  exact h3 (j + 1) x m hx (by simpa using hm')
            refine ⟨.tuple #[], _, G, .inl (exec_value _ ?_), Post.write hi hg rfl hb rfl hrel (fun vs' el' f' hw' => by first | (rw [h1] at hw'; cases hw') | (rw [e2] at hw'; cases hw')), tup⟩
            simp [Builtin.delete_, h0, ha0, ha1, run_underlying hd, MapKept.run_getObj_map h1, checkKey_run hkd hk, hfk, MapKept.run_setObj_map _ h1]
            rfl
  · refine ValOK.same hi tup (exec_value _ ?_)
    simp [Builtin.delete_, h0, ha0, ha1, run_underlying hd, checkKey_run hkd hk]

theorem next_ok (hi : Inv G s w) {ty : TypeId} {x : EArg} {v : Value} (hv : V G (x.ev tmps) v) :
    OpOK P G s w (opV (rtOf P) tmps s (.next x)) ((do pure (.value (← Instr.next v true ty)) : Sem Next).run P w) := by
  simp only [opV]
  generalize x.ev tmps = ax at hv
  cases hv <;> try trivial
  rename_i r off b hb
  cases off with
  | succ _ => trivial
  | zero =>
    simp only
    cases hg : s.heap.get r with
    | none => trivial
    | some ob =>
      cases ob <;> try trivial
      rename_i l pos
      obtain ⟨b', o, e1, e2, e3⟩ := hi.obj r _ hg rfl
      rw [hb] at e1; cases e1
      obtain ⟨str, rfl, hl⟩ := e3
      have hsz : str.size = l.length := by rw [← hl]; exact size_data str
      simp only
      split
      · rename_i hlt
        have hs : (⟨l.toArray⟩ : ByteArray) = str := by rw [← hl]
        rw [hs]
        refine ⟨_, _, G, .inl (exec_value _ (Lib.run_next_any_at w b str pos ty e2 (by omega))), Post.write hi hg rfl hb rfl ⟨str, rfl, hl⟩ (fun vs' el' f' hw' => by rw [e2] at hw'; cases hw'), ?_⟩
        refine .tuple _ _ rfl (fun i c u hc hu => ?_)
        match i with
        | 0 => simp at hc hu; subst hc; subst hu; exact .bool true
        | 1 => simp at hc hu; subst hc; subst hu; exact .int _ _
        | 2 => simp at hc hu; subst hc; subst hu; exact .int _ _
        | n + 3 => simp at hc
      · rename_i hlt
        refine ValOK.same hi ?_ (exec_value _ (Lib.run_next_end_at w b str pos ty e2 (by omega)))
        refine .tuple _ _ rfl (fun i c u hc hu => ?_)
        match i with
        | 0 => simp at hc hu; subst hc; subst hu; exact .bool false
        | n + 1 => simp at hc
end
end GoE
