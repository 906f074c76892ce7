import Derived.Test.YtnmfnbhgolakkaaGreatDoorEc
/- A drawn region: one operation more. No condition. -/
namespace GoE
open Go

theorem beqL_eq {a b : List AV} (h : AV.beqL a b = true) : a = b := AV.beqL_eq a b h

theorem wantedV_congr {tmps tmps' : List AV} {e : EOp} (h : ∀ t ∈ namesOf e, tget tmps t = tget tmps' t) : wantedV e.guard tmps = wantedV e.guard tmps' := by
  cases hg : e.guard with
  | none => rfl
  | some p =>
    obtain ⟨t, want⟩ := p
    have := h t (by simp [namesOf, hg])
    simp only [wantedV, this]

theorem args_names {e : EOp} {t : Nat} (h : t ∈ namesOf.argsOf e.k) : t ∈ namesOf e := by simp [namesOf, h]
theorem dst_names {e : EOp} {t : Nat} (h : e.dst = some t) : t ∈ namesOf e := by simp [namesOf, h]

theorem tget_out {l : List AV} {t : Nat} (h : l.length ≤ t) : tget l t = .undef := by rw [tget_eq, List.getElem?_eq_none h]; rfl

def upd (S : Nat → Bool) (p : Nat) : Nat → Bool := fun q => q == p || S q

theorem upd_self (S : Nat → Bool) (p : Nat) : upd S p p = true := by simp [upd]
theorem upd_ne {S : Nat → Bool} {p q : Nat} (h : q ≠ p) : upd S p q = S q := by simp [upd, h]
theorem upd_of {S : Nat → Bool} {p q : Nat} (h : S q = true) : upd S p q = true := by simp [upd, h]

section
variable {P : Program} {L : Low} {call : FuncId → List AV → St → COut}
variable {ops : Array Oper} {ds : List DOp} {ix : Nat → Nat} {B : Nat → Nat → Prop} {base m : Nat} {T : Nat → List AV} {σ : Nat → St} {val : Nat → AV} {log : List DLog}
variable {G0 : Gh} {s0 : St} {w0 : World} {dfs : List (AV × List AV)} {S : Nat → Bool} {j : Nat} {G : Gh} {a : Act} {w : World}

theorem J.put (hj : J P L ops ds ix base m T σ val G0 s0 w0 dfs S j G a w) (df : DF L ops ds ix B) {p : Nat} {d : DOp} (hp : p < ops.size) (hd : ds[p]? = some d) (hS : S p = false) (t : Nat) :
    tget (W (dstOf ds) val (T 0) (upd S p) ops.size) t = tget (putL (W (dstOf ds) val (T 0) S ops.size) d.op.dst (val p)) t := by
  have hdst : dstOf ds p = d.op.dst := by simp [dstOf, hd]
  rw [tget_putL, W_length]
  by_cases ht : d.op.dst = some t
  · rw [W_more (p := p + 1) ops.size (by omega)]
    · simp only [W, upd_self, if_true]
      rw [tget_putL, W_length, hdst]
      by_cases hl : t < (T 0).length
      · rw [if_pos ⟨ht, hl⟩, if_pos ⟨ht, hl⟩]
      · rw [if_neg (fun h => hl h.2), if_neg (fun h => hl h.2), tget_out (by rw [W_length]; omega), tget_out (by rw [W_length]; omega)]
    · intro q h1 h2 h3
      rw [upd_ne (by omega)]
      cases hSq : S q with
      | false => rfl
      | true =>
        obtain ⟨dq, g1, g2⟩ : ∃ dq, ds[q]? = some dq ∧ dq.op.dst = some t := by
          simp only [dstOf, Option.bind_eq_some_iff] at h3
          exact h3
        rcases df.pairs p q d dq (by omega) hd g1 with h4 | ⟨h4, _⟩
        · have := hj.bclosed' df h2 hSq hp h4
          rw [hS] at this; cases this
        · exact absurd (dst_names g2) (h4 t ht)
  · rw [if_neg (fun h => ht h.1)]
    refine W_agree ops.size (fun q hq hdq => upd_ne (fun e => ?_))
    subst e
    rw [hdst] at hdq
    exact ht hdq

theorem J.frame (hj : J P L ops ds ix base m T σ val G0 s0 w0 dfs S j G a w) (df : DF L ops ds ix B) {p : Nat} {d : DOp} (hp : p < ops.size) (hd : ds[p]? = some d) (hS : S p = false) {G' : Gh} {a' : Act} {v : AV} (hv : v = val p)
    (h : FrOK G' ({ tmps := W (dstOf ds) val (T 0) S ops.size, defers := dfs, rcv := .off : Fr }.put d.op.dst v) a') :
    FrOK G' { tmps := W (dstOf ds) val (T 0) (upd S p) ops.size, defers := dfs, rcv := .off } a' := by
  subst hv
  refine ⟨fun t => ?_, ?_, ?_⟩
  · have := h.tm t
    rw [Fr.put_tmps] at this
    show V G' (tget (W (dstOf ds) val (T 0) (upd S p) ops.size) t) _
    rw [hj.put df hp hd hS t]
    exact this
  · have := h.len
    rw [Fr.put_tmps, putL_length, W_length] at this
    show (W _ _ _ _ _).length = _
    rw [W_length]; exact this
  · have := h.defs
    rw [Fr.put_defers] at this
    exact this

def Waits (G : Gh) (w : World) (r : Nat) (ob : HObj) : Prop :=
  ob.isTok = false ∧ ∃ b o, G.blk r = some b ∧ w.heap[b]? = some o ∧ ObjRel G ob o ∧ ∀ q, G.blk q = some b → q = r

theorem J.stay (hj : J P L ops ds ix base m T σ val G0 s0 w0 dfs S j G a w) {p : Nat} {d : DOp} (hd : ds[p]? = some d) (hw : d.op.k.cls ≠ .w)
    (hdir : ∀ o, ops[ix p]? = some o → ∀ e ∈ directs o, ∃ q, q < ops.size ∧ ix q = e ∧ S q = true) (hpm : m < ops.size → p ≠ m) {G' : Gh} {a' : Act} {w' : World} (post : Post G0 s0 w0 G' (σ j) w')
    (fr : FrOK G' { tmps := W (dstOf ds) val (T 0) (upd S p) ops.size, defers := dfs, rcv := .off } a')
    (pend : ∀ q, q < m → S q = true → j ≤ q → ∀ ob, PendOb P ds T σ q ob → Waits G' w' (base + q) ob) (pendp : p < m → ∀ ob, PendOb P ds T σ p ob → Waits G' w' (base + p) ob)
    (free : ∀ q, q < ops.size → S q = false → q ≠ p → G'.blk (base + q) = none) : J P L ops ds ix base m T σ val G0 s0 w0 dfs (upd S p) j G' a' w' := by
  refine { jm := hj.jm, jw := fun q dq hq hdq hS hc => ?_, jl := ?_, post, fr, closed := fun q o hq hS ho e he => ?_, pend := fun q hq hS hjq ob hob => ?_, free := fun q hq hS => ?_, unreg := hj.unreg, nxt := hj.nxt, pm := fun h => ?_ }
  · by_cases e : q = p
    · subst e; rw [hd] at hdq; cases hdq; exact absurd hc hw
    · rw [upd_ne e] at hS; exact hj.jw q dq hq hdq hS hc
  · rcases hj.jl with h | ⟨q, dq, h1, h2, h3⟩
    · exact .inl h
    · exact .inr ⟨q, dq, h1, upd_of h2, h3⟩
  · by_cases e0 : q = p
    · subst e0
      obtain ⟨r, h1, h2, h3⟩ := hdir o ho e he
      exact ⟨r, h1, h2, upd_of h3⟩
    · rw [upd_ne e0] at hS
      obtain ⟨r, h1, h2, h3⟩ := hj.closed q o hq hS ho e he
      exact ⟨r, h1, h2, upd_of h3⟩
  · by_cases e : q = p
    · subst e; exact pendp hq ob hob
    · rw [upd_ne e] at hS; exact pend q hq hS hjq ob hob
  · by_cases e : q = p
    · subst e; rw [upd_self] at hS; cases hS
    · rw [upd_ne e] at hS; exact free q hq hS e
  · rw [upd_ne (Ne.symm (hpm h))]; exact hj.pm h

/-- An effect, once all that waits ahead of it has had its turn. -/
theorem J.move (hj : J P L ops ds ix base m T σ val G0 s0 w0 dfs S j G a w) {p : Nat} {d : DOp} (hp : p < m) (hm : m ≤ ops.size) (hd : ds[p]? = some d) (hw : d.op.k.cls = .w) (hjp : j ≤ p)
    (hdir : ∀ o, ops[ix p]? = some o → ∀ e ∈ directs o, ∃ q, q < ops.size ∧ ix q = e ∧ S q = true) {G' : Gh} {a' : Act} {w' : World}
    (hup : Post G0 s0 w0 G (σ p) w ∧ (σ p).next = (σ j).next ∧ ∀ q, p ≤ q → q < ops.size → (σ p).heap.get (base + q) = none) (hi0 : Inv G0 s0 w0)
    (post : Post G (σ p) w G' (σ (p + 1)) w')
    (fr : FrOK G' { tmps := W (dstOf ds) val (T 0) (upd S p) ops.size, defers := dfs, rcv := .off } a') : J P L ops ds ix base m T σ val G0 s0 w0 dfs (upd S p) (p + 1) G' a' w' := by
  obtain ⟨u1, u2, u3⟩ := hup
  have hnx := hj.nxt
  refine { jm := hp, jw := fun q dq hq hdq hS hc => ?_, jl := .inr ⟨p, d, rfl, upd_self S p, hd, hw⟩, post := u1.trans hi0 post, fr, closed := fun q o hq hS ho e he => ?_, pend := fun q hq hS hjq ob hob => ?_, free := fun q hq hS => ?_,
           unreg := fun q h1 h2 => post.noRes _ (by omega) (u3 q (by omega) h2), nxt := Nat.le_trans (by omega) post.next, pm := fun h => ?_ }
  · by_cases e : q = p
    · omega
    · rw [upd_ne e] at hS; have := hj.jw q dq hq hdq hS hc; omega
  · by_cases e0 : q = p
    · subst e0
      obtain ⟨r, h1, h2, h3⟩ := hdir o ho e he
      exact ⟨r, h1, h2, upd_of h3⟩
    · rw [upd_ne e0] at hS
      obtain ⟨r, h1, h2, h3⟩ := hj.closed q o hq hS ho e he
      exact ⟨r, h1, h2, upd_of h3⟩
  · rw [upd_ne (by omega)] at hS
    obtain ⟨k0, b, o, k1, k2, k3, k4⟩ := hj.pend q hq hS (by omega) ob hob
    have hle : q < ops.size := by omega
    obtain ⟨n1, n2, n3, n4⟩ := post.waits u1.inv k1 k2 k3 (u3 q (by omega) hle) k4
    exact ⟨k0, b, o, n1, n2, n3, n4⟩
  · have e : q ≠ p := fun e => by subst e; rw [upd_self] at hS; cases hS
    rw [upd_ne e] at hS
    have hf := hj.free q hq hS
    cases hb : G'.blk (base + q) with
    | none => rfl
    | some b =>
      rcases post.newBlk _ b hb with h | ⟨h, _⟩
      · rw [hf] at h; cases h
      · omega
  · rw [upd_ne (by omega)]; exact hj.pm h
end
end GoE

/- A drawn region: one operation more, whichever it is. No condition. -/
namespace GoE
open Go

section
variable {P : Program} {L : Low} {call : FuncId → List AV → St → COut}
variable {ops : Array Oper} {ds : List DOp} {ix : Nat → Nat} {B : Nat → Nat → Prop} {base m : Nat} {T : Nat → List AV} {σ : Nat → St} {val : Nat → AV} {log : List DLog}
variable {G0 : Gh} {s0 : St} {w0 : World} {dfs : List (AV × List AV)} {S : Nat → Bool} {j : Nat} {G : Gh} {a : Act} {w : World}

theorem loadL_set (s : St) (r : Nat) (ob : Option HObj) (av : AV) (n : Nat) (h : ∀ q o, av = .ptr q o → q ≠ r) : loadL { s with heap := s.heap.set r ob } av n = loadL s av n := by
  cases av <;> try rfl
  rename_i q o
  simp only [loadL, Tr.get_set]
  rw [if_neg (h q o rfl)]

/-- A load gives the same wherever no effect that it must heed stands between. -/
theorem Run.loads (hr : Run P call ops ds base m T σ val log) {av : AV} {n : Nat} {wl : List Nat} (hl : DLog.l av n wl ∈ log) : ∀ (k q : Nat), q + k ≤ m →
    (∀ r d, q ≤ r → r < q + k → ds[r]? = some d → d.op.k.cls = .w → r ∈ wl) → loadL (σ q) av n = loadL (σ (q + k)) av n
  | 0, _, _, _ => rfl
  | k + 1, q, hk, h => by
    rw [hr.loads hl k q (by omega) (fun r d h1 h2 => h r d h1 (by omega)), show q + (k + 1) = q + k + 1 by omega]
    have hok := hr.log _ hl
    simp only [DLog.ok, Bool.and_eq_true] at hok
    obtain ⟨ho1, ho2⟩ := hok
    obtain ⟨d, hd, _, hst⟩ := hr.step (q + k) (by omega)
    rcases hst with ⟨_, _, hs⟩ | ⟨_, ⟨_, hs, _⟩ | ⟨ob, mk, _, _, _, hs⟩ | ⟨hc, hlog, _⟩⟩
    · rw [hs]
    · rw [hs]
    · rw [hs, loadL_set]
      intro r o e
      subst e
      simp only [decide_eq_true_eq] at ho1
      omega
    · have hin := h (q + k) d (by omega) (by omega) hd hc
      have := List.all_eq_true.1 ho2 _ hlog
      simp only [Bool.or_eq_true, Bool.not_eq_true', List.contains_eq_mem, decide_eq_false_iff_not] at this
      rcases this with h1 | h1
      · exact absurd hin h1
      · split at h1
        · rename_i x y e1 e2
          rw [e1, e2, AV.beqL_eq _ _ h1]
        · cases h1

theorem first_w {p : Nat} : ∀ (q : Nat), p < q → (∃ d, ds[q]? = some d ∧ d.op.k.cls = .w) → ∃ r d, p < r ∧ r ≤ q ∧ ds[r]? = some d ∧ d.op.k.cls = .w ∧ ∀ r' d', p < r' → r' < r → ds[r']? = some d' → d'.op.k.cls ≠ .w := by
  intro q
  induction q using Nat.strongRecOn with
  | _ q ih =>
    intro hpq ⟨d, hd, hw⟩
    by_cases h : ∃ r d', p < r ∧ r < q ∧ ds[r]? = some d' ∧ d'.op.k.cls = .w
    · obtain ⟨r, d', h1, h2, h3, h4⟩ := h
      obtain ⟨r2, d2, g1, g2, g3⟩ := ih r h2 h1 ⟨d', h3, h4⟩
      exact ⟨r2, d2, g1, by omega, g3⟩
    · exact ⟨q, d, hpq, Nat.le_refl _, hd, hw, fun r' d' h1 h2 h3 h4 => h ⟨r', d', h1, h2, h3, h4⟩⟩

/-- An effect, or an object made, that has not run yet lies behind the last effect that has. -/
theorem J.behind (hj : J P L ops ds ix base m T σ val G0 s0 w0 dfs S j G a w) (df : DF L ops ds ix B) (hm : m ≤ ops.size) {p : Nat} {d : DOp} (hp : p < ops.size) (hd : ds[p]? = some d) (hS : S p = false) (hc : d.op.k.cls = .w ∨ d.op.k.cls = .a) : j ≤ p := by
  rcases hj.jl with h | ⟨q, dq, h1, h2, h3, h4⟩
  · omega
  · rcases Nat.lt_or_ge p j with h | h
    · exfalso
      have hjm := hj.jm
      have hq : q < ops.size := by omega
      have wS : ∀ r dr, r ≤ q → ds[r]? = some dr → dr.op.k.cls = .w → S r = true := by
        intro r dr hr hdr hw
        by_cases e : r = q
        · subst e; exact h2
        · rcases df.pairs r q dr dq (by omega) hdr h3 with hB | ⟨_, _, hn⟩
          · exact hj.bclosed' df hq h2 (by omega) hB
          · exact absurd ⟨hw, h4⟩ hn
      rcases hc with hc | hc
      · have := wS p d (by omega) hd hc
        rw [hS] at this; cases this
      · have hpq : p < q := by
          rcases Nat.lt_or_ge p q with h' | h'
          · exact h'
          · have : p = q := by omega
            subst this
            rw [hS] at h2; cases h2
        obtain ⟨r, dr, g1, g2, g3, g4, g5⟩ := first_w (ds := ds) q hpq ⟨dq, h3, h4⟩
        have hB := df.late p r d dr g1 hd g3 hc g4 g5
        have := hj.bclosed' df (by omega) (wS r dr g2 g3 g4) hp hB
        rw [hS] at this; cases this
    · exact h

/-- Ahead of an effect that may run, no other effect is missing, and no object that it waits for. -/
theorem J.ahead (hj : J P L ops ds ix base m T σ val G0 s0 w0 dfs S j G a w) (df : DF L ops ds ix B) {p : Nat} {d : DOp} (hp : p < ops.size) (hd : ds[p]? = some d) (hc : d.op.k.cls = .w)
    (hdir : ∀ o, ops[ix p]? = some o → ∀ e ∈ directs o, ∃ q, q < ops.size ∧ ix q = e ∧ S q = true) : ∀ r dr, j ≤ r → r < p → ds[r]? = some dr → dr.op.k.cls ≠ .w ∧ (dr.op.k.cls = .a → S r = true) := by
  have now : ∀ r dr, j ≤ r → r < p → ds[r]? = some dr → dr.op.k.cls ≠ .w := by
    intro r dr h1 h2 h3 h4
    rcases df.pairs r p dr d h2 h3 hd with hB | ⟨_, _, hn⟩
    · have := hj.jw r dr (by omega) h3 (hj.bclosed df hp hdir (by omega) hB) h4
      omega
    · exact hn ⟨h4, hc⟩
  intro r dr h1 h2 h3
  refine ⟨now r dr h1 h2 h3, fun h4 => ?_⟩
  exact hj.bclosed df hp hdir (by omega) (df.late r p dr d h2 h3 hd h4 hc (fun r' d' g1 g2 g3 => now r' d' (by omega) g2 g3))

theorem junk_get : ∀ (js : List Nat) (l : List AV) (t : Nat), tget (js.foldl (fun t i => lset t i .junk) l) t = if t ∈ js ∧ t < l.length then .junk else tget l t
  | [], l, t => by simp
  | i :: js, l, t => by
    simp only [List.foldl_cons]
    rw [junk_get js (lset l i .junk) t]
    have hlen : (lset l i .junk).length = l.length := by simp [lset_eq]
    rw [hlen, tget_lset]
    by_cases h1 : t ∈ js ∧ t < l.length
    · rw [if_pos h1, if_pos ⟨List.mem_cons_of_mem _ h1.1, h1.2⟩]
    · rw [if_neg h1]
      by_cases h2 : t = i ∧ i < l.length
      · rw [if_pos h2, if_pos ⟨by rw [h2.1]; exact List.mem_cons_self .., by omega⟩]
      · rw [if_neg h2, if_neg]
        rintro ⟨h3, h4⟩
        rcases List.mem_cons.1 h3 with h5 | h5
        · exact h2 ⟨h5, by omega⟩
        · exact h1 ⟨h5, h4⟩

theorem junk_length (js : List Nat) (l : List AV) : (js.foldl (fun t i => lset t i .junk) l).length = l.length := by
  induction js generalizing l with
  | nil => rfl
  | cons i js ih => simp only [List.foldl_cons]; rw [ih]; simp [lset_eq]

theorem J.waitsPost (hj : J P L ops ds ix base m T σ val G0 s0 w0 dfs S j G a w) (hm : m ≤ ops.size) {G' : Gh} {w' : World} (hp : Post G (σ j) w G' (σ j) w') :
    ∀ q, q < m → S q = true → j ≤ q → ∀ ob, PendOb P ds T σ q ob → Waits G' w' (base + q) ob := by
  intro q hq hS hjq ob hob
  obtain ⟨k0, b, o, k1, k2, k3, k4⟩ := hj.pend q hq hS hjq ob hob
  obtain ⟨n1, n2, n3, n4⟩ := hp.waits hj.post.inv k1 k2 k3 (hj.unreg q hjq (by omega)) k4
  exact ⟨k0, b, o, n1, n2, n3, n4⟩

theorem J.freePost (hj : J P L ops ds ix base m T σ val G0 s0 w0 dfs S j G a w) {s1 s2 : St} {G' : Gh} {w' : World} (hn : s1.next = (σ j).next) (hp : Post G s1 w G' s2 w') : ∀ q, q < ops.size → S q = false → G'.blk (base + q) = none := by
  intro q hq hS
  have hf := hj.free q hq hS
  have hnx := hj.nxt
  cases hb : G'.blk (base + q) with
  | none => rfl
  | some b =>
    rcases hp.newBlk _ b hb with h | ⟨h, _⟩
    · rw [hf] at h; cases h
    · omega
end
end GoE

/- A drawn region: one operation more, whichever it is: the step. No condition. -/
namespace GoE
open Go

section
variable {P : Program} {L : Low} {call : FuncId → List AV → St → COut}
variable {ops : Array Oper} {ds : List DOp} {ix : Nat → Nat} {B : Nat → Nat → Prop} {base m : Nat} {T : Nat → List AV} {σ : Nat → St} {val : Nat → AV} {log : List DLog}
variable {G0 : Gh} {s0 : St} {w0 : World} {dfs : List (AV × List AV)} {S : Nat → Bool} {j : Nat} {G : Gh} {a : Act} {w : World}

theorem J.step (hL : LowOK P L) (hcall : CallOK P L call) (df : DF L ops ds ix B) (hr : Run P call ops ds base m T σ val log) (hi0 : Inv G0 s0 w0) (hg0 : GlOK L G0) (hb : base = s0.next)
    (hj : J P L ops ds ix base m T σ val G0 s0 w0 dfs S j G a w) {p : Nat} (hp : p < ops.size) (hS : S p = false) (hdir : ∀ o, ops[ix p]? = some o → ∀ e ∈ directs o, ∃ q, q < ops.size ∧ ix q = e ∧ S q = true)
    {e : EExit} {fr' : Fr} {s' : St} (hstop : StopOK (rtOf P) call ds m (T m) (σ m) e fr' s') (hdef : fr'.defers = dfs) {K : Act → World → Prop} {Q : Exit → Act → World → Prop}
    (hK : ∀ j' G' a' w', J P L ops ds ix base m T σ val G0 s0 w0 dfs (upd S p) j' G' a' w' → K a' w') (hQ : ∀ e' a' w', ExPost G0 s0 w0 e fr' s' e' a' w' → Q e' a' w') : wpOp P ops Q (ix p) K a w := by
  have hlen := df.len
  have hm := hr.le
  obtain ⟨d, hd⟩ : ∃ d, ds[p]? = some d := ⟨ds[p]'(by omega), List.getElem?_eq_getElem (by omega)⟩
  obtain ⟨o, g, ho, hgu, hop⟩ := df.op p d hd
  have hnm := fun t (ht : t ∈ namesOf d.op) => hj.names df hp hd hS hdir ht
  have hg : GlOK L G := hg0.mono hj.post.le
  have ek : (lowOp L o.op).getD .bad = d.op.k := by rw [hop]
  have edst : o.dst = d.op.dst := by rw [hop]
  have eg : g = d.op.guard := by rw [hop]
  rw [eg] at hgu
  unfold wpOp
  simp only [ho]
  rcases Nat.lt_or_ge p m with hpm | hpm
  · -- the canonical run has it
    obtain ⟨d', hd', _, hst⟩ := hr.step p hpm
    rw [hd] at hd'; cases hd'
    have hT := hr.T_eq p (by omega)
    have hnT : ∀ t ∈ namesOf d.op, tget (W (dstOf ds) val (T 0) S ops.size) t = tget (T p) t := fun t ht => by rw [hT]; exact hnm t ht
    have hgw : wantedV d.op.guard (W (dstOf ds) val (T 0) S ops.size) = wantedV d.op.guard (T p) := wantedV_congr hnT
    have hov : ∀ s, opV (rtOf P) (W (dstOf ds) val (T 0) S ops.size) s d.op.k = opV (rtOf P) (T p) s d.op.k := fun s => opV_congr _ _ _ (fun t ht => hnT t (args_names ht))
    have hmne : m < ops.size → p ≠ m := fun _ => by omega
    have up : d.op.k.cls = .w → j ≤ p ∧ Post G0 s0 w0 G (σ p) w ∧ (σ p).next = (σ j).next ∧ ∀ q, p ≤ q → q < ops.size → (σ p).heap.get (base + q) = none := by
      intro hc
      have hjp := hj.behind df hm hp hd hS (.inl hc)
      have := hj.upto hr hb (p - j) (by omega) (fun r dr h1 h2 h3 => hj.ahead df hp hd hc hdir r dr h1 (by omega) h3)
      rw [show j + (p - j) = p by omega] at this
      exact ⟨hjp, this⟩
    -- staying where we are in memory
    have stay : ∀ (v : AV) (G' : Gh) (a' : Act) (w' : World), d.op.k.cls ≠ .w → v = val p → (∀ ob, ¬ PendOb P ds T σ p ob) → Post G (σ j) w G' (σ j) w' →
        FrOK G' ({ tmps := W (dstOf ds) val (T 0) S ops.size, defers := dfs, rcv := .off : Fr }.put d.op.dst v) a' → K a' w' := by
      intro v G' a' w' hc hv hnp hP hF
      exact hK j G' a' w' (hj.stay hd hc hdir hmne (hj.post.trans hi0 hP) (hj.frame df hp hd hS hv hF) (hj.waitsPost hm hP) (fun _ ob hob => absurd hob (hnp ob)) (fun q hq hSq _ => hj.freePost rfl hP q hq hSq))
    have move : ∀ (v : AV) (G' : Gh) (a' : Act) (w' : World), d.op.k.cls = .w → v = val p → Post G (σ p) w G' (σ (p + 1)) w' →
        FrOK G' ({ tmps := W (dstOf ds) val (T 0) S ops.size, defers := dfs, rcv := .off : Fr }.put d.op.dst v) a' → K a' w' := by
      intro v G' a' w' hc hv hP hF
      obtain ⟨hjp, hup⟩ := up hc
      exact hK (p + 1) G' a' w' (hj.move hpm hm hd hc hjp hdir hup hi0 hP (hj.frame df hp hd hS hv hF))
    rcases hst with ⟨hgf, hv, hs⟩ | ⟨hgt, hres⟩
    · -- its guard says no
      rw [if_neg (by rw [wanted_ok hj.fr hgu (hgw.trans hgf)]; simp)]
      have hF := hj.fr.put (V.undef (G := G)) o.dst
      rw [edst] at hF ⊢
      by_cases hc : d.op.k.cls = .w
      · obtain ⟨_, hup, _⟩ := up hc
        exact move .undef G _ w hc hv.symm (by rw [hs]; exact Post.refl hup.inv) hF
      · refine stay .undef G _ w hc hv.symm (fun ob ⟨d2, mk', e1, e2, _⟩ => ?_) (Post.refl hj.post.inv) hF
        rw [hd] at e1; cases e1
        rw [hgf] at e2; cases e2
    · rw [if_pos (wanted_ok hj.fr hgu (hgw.trans hgt))]
      refine .inl ?_
      -- the operation's lemma at a state of the canonical run
      have atP := fun (hup : Post G0 s0 w0 G (σ p) w) => oper_wp (K := K) (Q := Q) hL hcall hup.inv hg hj.fr (o := o) ek
      simp only [hov] at atP
      rw [edst] at atP
      rcases hres with ⟨hvv, hs, hlog⟩ | ⟨ob, mk, hnew, hc, hv, hs⟩ | ⟨hc, _, heff⟩
      · by_cases hc : d.op.k.cls = .w
        · obtain ⟨_, hup, _⟩ := up hc
          have := atP hup
          rw [hvv] at this
          exact this (fun G' a' w' hP hF => move _ G' a' w' hc rfl (by rw [hs]; exact hP) hF)
        · -- no look at memory, or a load that may stand here
          have hvj : opV (rtOf P) (T p) (σ j) d.op.k = .val (val p) := by
            cases hcl : d.op.k.cls with
            | w => exact absurd hcl hc
            | p => rw [opV_state _ _ _ (σ p) _ (.inl hcl)]; exact hvv
            | a => rw [opV_state _ _ _ (σ p) _ (.inr hcl)]; exact hvv
            | l =>
              obtain ⟨sz, agg, x, hk⟩ : ∃ sz agg x, d.op.k = .load sz agg x := by
                cases hk : d.op.k <;> rw [hk] at hcl <;> first | exact ⟨_, _, _, rfl⟩ | (simp [EK.cls] at hcl)
              have hl := hlog sz agg x hk
              have heq : loadL (σ j) (x.ev (T p)) sz = loadL (σ p) (x.ev (T p)) sz := by
                rcases Nat.le_total j p with hjp | hjp
                · have := hr.loads hl (p - j) j (by omega) (fun r dr h1 h2 h3 h4 => by
                    refine df.wl p d hd r dr h3 (by omega) (fun hB => ?_) (fun hB => ?_) h4
                    · have := df.before (by omega) hp hB; omega
                    · have := hj.jw r dr (by omega) h3 (hj.bclosed df hp hdir (by omega) hB) h4; omega)
                  rw [this, show j + (p - j) = p by omega]
                · have hjm := hj.jm
                  have := hr.loads hl (j - p) p (by omega) (fun r dr h1 h2 h3 h4 => by
                    have hrp : r ≠ p := fun e => by subst e; rw [hd] at h3; cases h3; exact hc h4
                    have hSr : S r = true := by
                      rcases hj.jl with h | ⟨q, dq, g1, g2, g3, g4⟩
                      · omega
                      · by_cases e : r = q
                        · subst e; exact g2
                        · rcases df.pairs r q dr dq (by omega) h3 g3 with hB | ⟨_, _, hn⟩
                          · exact hj.bclosed' df (by omega) g2 (by omega) hB
                          · exact absurd ⟨h4, g4⟩ hn
                    refine df.wl p d hd r dr h3 (Ne.symm hrp) (fun hB => ?_) (fun hB => ?_) h4
                    · have := hj.bclosed' df (by omega) hSr hp hB
                      rw [hS] at this; cases this
                    · have := df.before hp (by omega) hB; omega)
                  rw [show p + (j - p) = j by omega] at this
                  exact this.symm
              rw [hk] at hvv ⊢
              simp only [opV] at hvv ⊢
              rw [heq]
              exact hvv
          have hw := oper_wp (K := K) (Q := Q) hL hcall hj.post.inv hg hj.fr (o := o) ek
          simp only [hov] at hw
          rw [hvj, edst] at hw
          refine hw (fun G' a' w' hP hF => stay _ G' a' w' hc rfl (fun ob ⟨d2, mk', e1, _, e3, _⟩ => ?_) hP hF)
          rw [hd] at e1; cases e1
          rw [hvv] at e3; cases e3
      · -- an object ahead of its turn
        have hjp := hj.behind df hm hp hd hS (.inr hc)
        have hnewj : opV (rtOf P) (W (dstOf ds) val (T 0) S ops.size) (σ j) d.op.k = .new ob mk := by rw [hov, opV_state _ _ _ (σ p) _ (.inr hc)]; exact hnew
        have hlow : ∃ k', lowOp L o.op = some k' := by
          cases hl : lowOp L o.op with
          | some k' => exact ⟨k', rfl⟩
          | none => rw [hl] at ek; simp only [Option.getD_none] at ek; rw [← ek] at hc; simp [EK.cls] at hc
        obtain ⟨k', hk'⟩ := hlow
        rw [hk'] at ek
        simp only [Option.getD_some] at ek
        have hok := opV_ok (o := o) hj.post.inv hL hg hj.fr.tm hk'
        rw [ek, hnewj] at hok
        obtain ⟨v', w', ob', h1, h2, h3, h4⟩ := hok
        have hfree := hj.free p hp hS
        have hnx := hj.nxt
        obtain ⟨hP, hle⟩ := hj.post.pending h2 (r := base + p) (by omega) (by omega) hfree (hj.unreg p hjp hp)
        obtain ⟨k1, k2⟩ := h4 (base + p) (G.addBlk (base + p) w.heap.size) hle (by simp [Gh.addBlk])
        unfold Oper.wp
        rw [h1]
        have hF := (hj.fr.mono hle).put k1 o.dst
        rw [edst] at hF
        have hkeep : ∀ q b o2, G.blk (base + q) = some b → w.heap[b]? = some o2 → (∀ r, G.blk r = some b → r = base + q) → q ≠ p → (G.addBlk (base + p) w.heap.size).blk (base + q) = some b ∧ w'.heap[b]? = some o2 ∧
            ∀ r, (G.addBlk (base + p) w.heap.size).blk r = some b → r = base + q := by
          intro q b o2 g1 g2 g3 g4
          refine ⟨by simp only [Gh.addBlk]; rw [if_neg (by omega)]; exact g1, by rw [h2.old (lt_of_blk g2)]; exact g2, fun r hr2 => ?_⟩
          simp only [Gh.addBlk] at hr2
          split at hr2
          · cases hr2
            have := lt_of_blk g2
            omega
          · exact g3 r hr2
        show K (a.put o.dst v') w'
        rw [edst]
        refine hK j _ _ w' (hj.stay hd (by rw [hc]; simp) hdir hmne hP (hj.frame df hp hd hS hv.symm hF) (fun q hq hSq hjq ob2 hob2 => ?_) (fun _ ob2 hob2 => ?_) (fun q hq hSq hne => ?_))
        · obtain ⟨t0, b, o2, t1, t2, t3, t4⟩ := hj.pend q hq hSq hjq ob2 hob2
          have hqp : q ≠ p := fun e => by subst e; rw [hS] at hSq; cases hSq
          obtain ⟨n1, n2, n3⟩ := hkeep q b o2 t1 t2 t4 hqp
          exact ⟨t0, b, o2, n1, n2, t3.mono hle, n3⟩
        · obtain ⟨d2, mk2, e1, _, e3, _⟩ := hob2
          rw [hd] at e1; cases e1
          rw [hnew] at e3
          cases e3
          refine ⟨h3, w.heap.size, ob', by simp [Gh.addBlk], h2.new, k2, fun r hr2 => ?_⟩
          simp only [Gh.addBlk] at hr2
          split at hr2
          · assumption
          · have := hj.post.inv.blkLt r _ hr2; omega
        · simp only [Gh.addBlk]
          rw [if_neg (by omega)]
          exact hj.free q hq hSq
      · -- an effect
        obtain ⟨_, hup, _⟩ := up hc
        have := atP hup
        rcases heff with ⟨ob, mk, hnew, hv, hs⟩ | heff | ⟨f, args, hcl, hret⟩
        · rw [hnew] at this
          exact this (fun G' a' w' hP hF => move _ G' a' w' hc hv.symm (by rw [hs]; exact hP) hF)
        · rw [heff] at this
          exact this (fun G' a' w' hP hF => move _ G' a' w' hc rfl hP hF)
        · rw [hcl] at this
          simp only [hret] at this
          exact this (fun G' a' w' hP hF => move _ G' a' w' hc rfl hP hF)
  · -- the canonical run stops at 'm'
    rcases hstop with ⟨_, hml, _⟩ | ⟨dm, v, hdm, he, hpk, hcm, hgm, htm, hpan⟩
    · omega
    have hmn : m < ops.size := by omega
    have hSm := hj.pm hmn
    rcases Nat.eq_or_lt_of_le hpm with hpe | hpe
    · -- here it is
      subst hpe
      rw [hd] at hdm; cases hdm
      have hT := hr.T_eq m (Nat.le_refl _)
      have hnT : ∀ t ∈ namesOf d.op, tget (W (dstOf ds) val (T 0) S ops.size) t = tget (T m) t := fun t ht => by rw [hT]; exact hnm t ht
      have hgw : wantedV d.op.guard (W (dstOf ds) val (T 0) S ops.size) = wantedV d.op.guard (T m) := wantedV_congr hnT
      have hov : ∀ s, opV (rtOf P) (W (dstOf ds) val (T 0) S ops.size) s d.op.k = opV (rtOf P) (T m) s d.op.k := fun s => opV_congr _ _ _ (fun t ht => hnT t (args_names ht))
      rw [if_pos (wanted_ok hj.fr hgu (hgw.trans hgm))]
      refine .inl ?_
      have hjm := hj.jm
      have hup := hj.upto hr hb (m - j) (by omega) (fun r dr h1 h2 h3 => hj.ahead df hp hd hcm hdir r dr h1 (by omega) h3)
      rw [show j + (m - j) = m by omega] at hup
      obtain ⟨hup, _, _⟩ := hup
      have atP := oper_wp (K := K) (Q := Q) hL hcall hup.inv hg hj.fr (o := o) ek
      simp only [hov] at atP
      have dget : ∀ q t, dstOf ds q = some t → ∃ dq, ds[q]? = some dq ∧ dq.op.dst = some t := fun q t hq => by
        simp only [dstOf, Option.bind_eq_some_iff] at hq
        exact hq
      have fin : ∀ (G' : Gh) (v' : Value) (w' : World), Post G (σ m) w G' s' w' → V G' v v' → Q (.panic [{ v := v', recovered := false }]) a w' := by
        intro G' v' w' hP hv
        refine hQ _ _ _ ⟨G', hup.trans hi0 hP, ⟨fun t => ?_, ?_, ?_⟩, by rw [he]; exact .panic v v' hv⟩
        · rw [htm, junk_get]
          split
          · exact .junk _
          · rename_i hj2
            have hold := (hj.fr.mono hP.le).tm t
            have heq : tget (T m) t = tget (W (dstOf ds) val (T 0) S ops.size) t := by
              by_cases hlt : t < (T m).length
              · have hnj : t ∉ d.junk := fun h => hj2 ⟨h, hlt⟩
                rw [hT]
                rw [W_more (p := m) (S := S) ops.size (by omega)]
                · refine W_agree m (fun q hq hdq => ?_)
                  obtain ⟨dq, h1, h2⟩ := dget q t hdq
                  cases hSq : S q with
                  | true => rfl
                  | false =>
                    refine absurd (df.junk m d hd q dq h1 (by omega) (fun hB => ?_) (fun hB => ?_) t h2) hnj
                    · have := df.before (by omega) hp hB; omega
                    · have := hj.bclosed df hp hdir (by omega) hB
                      rw [hSq] at this; cases this
                · intro q h1 h2 hdq
                  obtain ⟨dq, h3, h4⟩ := dget q t hdq
                  cases hSq : S q with
                  | false => rfl
                  | true =>
                    have hqm : m ≠ q := fun e => by subst e; rw [hSm] at hSq; cases hSq
                    refine absurd (df.junk m d hd q dq h3 hqm (fun hB => ?_) (fun hB => ?_) t h4) hnj
                    · have := hj.bclosed' df h2 hSq hp hB
                      rw [hSm] at this; cases this
                    · have := df.before hp h2 hB; omega
              · rw [tget_out (by omega), tget_out (by rw [W_length, ← (show (T m).length = (T 0).length by rw [hT, W_length])]; omega)]
            rw [heq]
            exact hold
        · rw [htm, junk_length, hT, W_length]
          have := hj.fr.len
          simpa [W_length] using this
        · rw [hdef]
          exact (hj.fr.mono hP.le).defs
      rcases hpan with ⟨h1, h2⟩ | ⟨f, args, h1, h2⟩
      · rw [h1] at atP
        subst h2
        exact atP fin
      · rw [h1] at atP
        simp only [h2] at atP
        exact atP fin
    · -- an object that nobody will see
      have hnb : ¬ B m p := fun hB => by
        have := hj.bclosed df hp hdir hmn hB
        rw [hSm] at this; cases this
      rcases df.panicOK m dm hdm hpk p d hpe hd with hB | ⟨hg0', hsim⟩
      · exact absurd hB hnb
      · rw [if_pos (wanted_ok hj.fr hgu (by rw [hg0']; rfl))]
        refine .inl ?_
        have hcls : d.op.k.cls = .a := by rcases hsim with ⟨t, z, hk⟩ | hk <;> rw [hk] <;> rfl
        have hnew : ∃ ob mk', opV (rtOf P) (W (dstOf ds) val (T 0) S ops.size) (σ j) d.op.k = .new ob mk' := by
          rcases hsim with ⟨t, z, hk⟩ | hk <;> rw [hk] <;> exact ⟨_, _, rfl⟩
        obtain ⟨ob, mk', hnew⟩ := hnew
        have hlow : ∃ k', lowOp L o.op = some k' := by
          cases hl : lowOp L o.op with
          | some k' => exact ⟨k', rfl⟩
          | none => rw [hl] at ek; simp only [Option.getD_none] at ek; rw [← ek] at hcls; simp [EK.cls] at hcls
        obtain ⟨k', hk'⟩ := hlow
        rw [hk'] at ek
        simp only [Option.getD_some] at ek
        have hok := opV_ok (o := o) hj.post.inv hL hg hj.fr.tm hk'
        rw [ek, hnew] at hok
        obtain ⟨v', w', ob', h1, h2, h3, h4⟩ := hok
        unfold Oper.wp
        rw [h1]
        have hF := hj.fr.put (V.junk (G := G) v') o.dst
        show K (a.put o.dst v') w'
        rw [edst] at hF ⊢
        refine hK j G _ w' (hj.stay hd (by rw [hcls]; simp) hdir (fun _ => by omega) (hj.post.push h2) (hj.frame df hp hd hS (hr.fill p (by omega)).symm hF) (fun q hq hSq hjq ob2 hob2 => ?_) (fun h => by omega) (fun q hq hSq _ => hj.free q hq hSq))
        obtain ⟨t0, b, o2, t1, t2, t3, t4⟩ := hj.pend q hq hSq hjq ob2 hob2
        exact ⟨t0, b, o2, t1, by rw [h2.old (lt_of_blk t2)]; exact t2, t3, t4⟩
end
end GoE

/- A drawn region, in whatever order: 'DrawSound'; and with it calls. No condition. -/
namespace GoE
open Go

theorem W_none (dst : Nat → Option Nat) (val : Nat → AV) (T0 : List AV) : ∀ p, W dst val T0 (fun _ => false) p = T0
  | 0 => rfl
  | p + 1 => by simp only [W, Bool.false_eq_true, if_false]; exact W_none dst val T0 p

theorem countP_lt {α : Type} (f g : α → Bool) : ∀ (l : List α), (∀ x ∈ l, g x = true → f x = true) → (∃ x ∈ l, f x = true ∧ g x = false) → l.countP g < l.countP f
  | [], _, h => by obtain ⟨x, hx, _⟩ := h; cases hx
  | y :: l, h, ⟨x, hx, h1, h2⟩ => by
    have hle : l.countP g ≤ l.countP f := List.countP_mono_left (fun z hz => h z (List.mem_cons_of_mem _ hz))
    simp only [List.countP_cons]
    rcases List.mem_cons.1 hx with e | e
    · subst e
      rw [h1, h2]
      simp
      omega
    · have ih := countP_lt f g l (fun z hz => h z (List.mem_cons_of_mem _ hz)) ⟨x, e, h1, h2⟩
      have := h y (List.mem_cons_self ..)
      cases hg : g y
      · simp; split <;> omega
      · rw [this hg]; simp; omega

section
variable {P : Program} {L : Low} {call : FuncId → List AV → St → COut}

def setOf (ix : Nat → Nat) (n : Nat) (listed : Array Bool) : Nat → Bool := fun q => decide (q < n) && listed.getD (ix q) false

theorem draw_sound (hL : LowOK P L) (hcall : CallOK P L call) : DrawSound P L call := by
  intro id ops ds fr s a w G hlow hrcv hi hg hf
  obtain ⟨ix, B, df⟩ := lowDraw_df hlow
  have hlen := df.len
  unfold runDraw
  cases hrun : execDraw (rtOf P) call s.next 0 ds fr { s with next := s.next + ds.length } [] with
  | mk out log =>
    cases out with
    | fail _ => trivial
    | ok e fr' s' =>
      simp only
      split
      case isFalse => trivial
      rename_i hlog
      intro Q hQ
      refine wp_region_any hL.mixed ?_
      obtain ⟨m, T, σ, val0, h1, h2, h3, h4, _, h6, h7⟩ := trace (rtOf P) call s.next ds 0 fr _ [] e fr' s' log hrun
      let val : Nat → AV := fun q => if q < m then val0 q else .junk
      have hr : Run P call ops ds s.next m T σ val log := by
        refine ⟨by omega, fun p hp => ?_, fun x hx => List.all_eq_true.1 hlog x hx, fun q hq => by simp only [val]; rw [if_neg (by omega)]⟩
        obtain ⟨d, g1, g2, g3⟩ := h4 p hp
        have hv : val p = val0 p := by simp only [val]; rw [if_pos hp]
        exact ⟨d, g1, by rw [hv]; exact g2, by rw [hv]; rw [Nat.zero_add] at g3; exact g3⟩
      -- the start
      have hstart : J P L ops ds ix s.next m T σ val G s w fr.defers (fun _ => false) 0 G a { w with drawn := w.drawn + 1 } := by
        have hsame := Post.same (w' := { w with drawn := w.drawn + 1 }) hi rfl rfl rfl rfl
        refine { jm := Nat.zero_le _, jw := fun p d _ _ h => (by cases h), jl := .inl rfl, post := ?_, fr := ?_, closed := fun p o _ h => (by cases h), pend := fun p _ h => (by cases h), free := fun p hp _ => ?_, unreg := fun q _ hq => ?_, nxt := ?_, pm := fun _ => rfl }
        · rw [h3]
          exact ⟨Gh.le.refl G, hsame.inv.bump (n := s.next + ds.length) (by omega), hsame.kept, fun _ _ h => .inl h, fun r _ e k h => .inl ⟨r, e, k, h⟩, by show s.next ≤ s.next + ds.length; omega, fun _ _ h => h, fun _ _ _ h _ _ => h⟩
        · rw [W_none, h2]
          exact ⟨hf.tm, hf.len, hf.defs⟩
        · exact (hi.fresh (s.next + p) (by omega)).2.1
        · rw [h3]
          exact (hi.fresh (s.next + q) (by omega)).1
        · rw [h3]; show s.next + ops.size ≤ s.next + ds.length; omega
      -- the end
      have hend : ∀ (S : Nat → Bool) (j : Nat) (G' : Gh) (a' : Act) (w' : World), J P L ops ds ix s.next m T σ val G s w fr.defers S j G' a' w' → (∀ p, p < ops.size → S p = true) → Q .normal a' w' := by
        intro S j G' a' w' hj hall
        have hmn : m = ops.size := by
          rcases Nat.lt_or_ge m ops.size with h | h
          · have := hj.pm h; rw [hall m h] at this; cases this
          · omega
        rcases h7 with ⟨e1, _, e3, e4⟩ | ⟨d, v, e1, _⟩
        · have hjm := hj.jm
          have hup := hj.upto hr rfl (m - j) (by omega) (fun r dr g1 g2 g3 => ⟨fun g4 => by have := hj.jw r dr (by omega) g3 (hall r (by omega)) g4; omega, fun _ => hall r (by omega)⟩)
          rw [show j + (m - j) = m by omega] at hup
          refine hQ _ _ _ ⟨G', by rw [e4]; exact hup.1, ⟨fun t => ?_, ?_, ?_⟩, by rw [e1]; exact .normal⟩
          · rw [e3, hr.T_eq m (Nat.le_refl _), hmn]
            have := hj.fr.tm t
            rw [W_agree (S' := S) ops.size (fun q hq _ => (hall q hq).symm)]
            exact this
          · rw [e3, hr.T_eq m (Nat.le_refl _), W_length]
            have := hj.fr.len
            simpa [W_length] using this
          · rw [h6]; exact hj.fr.defs
        · have := (List.getElem?_eq_some_iff.1 e1).1
          omega
      -- all orders
      have main : ∀ (fuel : Nat) (listed : Array Bool) (j : Nat) (G' : Gh) (a' : Act) (w' : World), listed.size = ops.size →
          J P L ops ds ix s.next m T σ val G s w fr.defers (setOf ix ops.size listed) j G' a' w' → (List.range ops.size).countP (fun p => !setOf ix ops.size listed p) ≤ fuel → wpAny P .any ops Q fuel listed a' w' := by
        intro fuel
        induction fuel with
        | zero =>
          intro listed j G' a' w' hsz hj hc
          have hall : ∀ p, p < ops.size → setOf ix ops.size listed p = true := fun p hp => by
            have h0 : (List.range ops.size).countP (fun p => !setOf ix ops.size listed p) = 0 := by omega
            have := List.countP_eq_zero.1 h0 p (List.mem_range.2 hp)
            simpa using this
          refine ⟨?_, hend _ j G' a' w' hj hall⟩
          cases hrd : Region.ready .any ops listed with
          | nil => rfl
          | cons i l =>
            exfalso
            have hi' : i ∈ Region.ready .any ops listed := by rw [hrd]; exact List.mem_cons_self ..
            obtain ⟨g1, o, g2, _⟩ := mem_ready.1 hi'
            have hlt := (Array.getElem?_eq_some_iff.1 g2).1
            obtain ⟨p, hp, rfl⟩ := df.surj i hlt
            have := hall p hp
            simp only [setOf, Bool.and_eq_true, decide_eq_true_eq] at this
            have hlt' : ix p < listed.size := by omega
            simp [hlt'] at g1 this
            rw [this.2] at g1
            cases g1
        | succ fuel ih =>
          intro listed j G' a' w' hsz hj hc
          refine ⟨fun hrd => hend _ j G' a' w' hj (fun p hp => ?_), fun i hi' => ?_⟩
          · -- nothing is ready: all has run
            induction p using Nat.strongRecOn with
            | _ p ihp =>
              cases hSp : setOf ix ops.size listed p with
              | true => rfl
              | false =>
                exfalso
                have hlt := df.ixLt p hp
                have hmem : ix p ∈ Region.ready .any ops listed := by
                  refine mem_ready.2 ⟨?_, ops[ix p], by simp [hlt], fun e he hb => ?_⟩
                  · simp only [setOf, Bool.and_eq_false_iff, decide_eq_false_iff_not] at hSp
                    rcases hSp with h | h
                    · exact absurd hp h
                    · have hlt' : ix p < listed.size := by omega
                      simp [hlt'] at h ⊢
                      exact h
                  · obtain ⟨q, hq, heq⟩ := df.topo p ops[ix p] hp (by simp [hlt]) e.on (by
                      simp only [directs, List.mem_map, List.mem_filter]
                      exact ⟨e, ⟨by simpa using he, hb⟩, rfl⟩)
                    have := ihp q hq (by omega)
                    simp only [setOf, Bool.and_eq_true] at this
                    rw [← heq]
                    exact this.2
                rw [hrd] at hmem
                cases hmem
          · obtain ⟨g1, o, g2, g3⟩ := mem_ready.1 hi'
            have hlt := (Array.getElem?_eq_some_iff.1 g2).1
            obtain ⟨p, hp, rfl⟩ := df.surj i hlt
            have hlt' : ix p < listed.size := by omega
            have hSp : setOf ix ops.size listed p = false := by
              simp only [setOf, Bool.and_eq_false_iff]
              right
              simp [hlt'] at g1 ⊢
              exact g1
            have hupd : ∀ q, setOf ix ops.size (listed.setIfInBounds (ix p) true) q = upd (setOf ix ops.size listed) p q := by
              intro q
              by_cases e : q = p
              · subst e
                rw [upd_self]
                simp [setOf, hp, hlt']
              · rw [upd_ne e]
                by_cases hq : q < ops.size
                · have hne : ix p ≠ ix q := fun h => e (df.inj q p hq hp h.symm)
                  simp only [setOf]
                  rw [getD_set_ne false hne]
                · simp [setOf, hq]
            refine hj.step hL hcall df hr hi hg rfl hp hSp (fun o' ho' e he => ?_) h7 h6 (fun j2 G2 a2 w2 hj2 => ?_) hQ
            · rw [g2] at ho'; cases ho'
              simp only [directs, List.mem_map, List.mem_filter] at he
              obtain ⟨ed, ⟨he1, he2⟩, rfl⟩ := he
              have hon := g3 ed (by simpa using he1) he2
              have hlt2 : ed.on < ops.size := by
                rcases Nat.lt_or_ge ed.on listed.size with h | h
                · omega
                · simp [Array.getElem?_eq_none h] at hon
              obtain ⟨q, hq, heq⟩ := df.surj ed.on hlt2
              exact ⟨q, hq, heq, by simp only [setOf, Bool.and_eq_true, decide_eq_true_eq]; exact ⟨hq, by rw [heq]; exact hon⟩⟩
            · have heq : setOf ix ops.size (listed.setIfInBounds (ix p) true) = upd (setOf ix ops.size listed) p := funext hupd
              refine ih _ j2 G2 a2 w2 (by simp [hsz]) (by rw [heq]; exact hj2) ?_
              have := countP_lt (fun q => !setOf ix ops.size listed q) (fun q => !setOf ix ops.size (listed.setIfInBounds (ix p) true) q) (List.range ops.size) (fun q _ hq => ?_) ⟨p, List.mem_range.2 hp, by simp [hSp], by simp [hupd, upd_self]⟩
              · omega
              · simp only [hupd, Bool.not_eq_true'] at hq ⊢
                simp only [upd, Bool.or_eq_false_iff] at hq
                exact hq.2
      refine main ops.size _ 0 G a _ (by simp) ?_ ?_
      · have : setOf ix ops.size (Array.replicate ops.size false) = fun _ => false := by
          funext q
          have : (Array.replicate ops.size false).getD (ix q) false = false := by
            rw [Array.getD_eq_getD_getElem?, Array.getElem?_replicate]; split <;> rfl
          simp only [setOf, this, Bool.and_false]
        rw [this]
        exact hstart
      · exact Nat.le_trans (List.countP_le_length) (by simp)
end

theorem callN_ok {P : Program} {L : Low} {X : EProg} (h : ProgOK P L X) (n : Nat) : CallOK P L (callN X n) :=
  callN_sound h (fun _ hc => draw_sound h.low hc) n
end GoE

/- A program's table of types and functions, for the evaluator. No condition. -/
namespace GoE
open Go

def zeroFits (i : TypeInfo) : Bool := match i.zero with | some v => v.cells.size == i.size | none => true

def mkTI (P : Program) (t : Nat) : Option TI :=
  match P.info? t, P.underlying t with
  | some i, some d =>
    if (isAggD d || i.size == 1) && zeroFits i then
      some { size := i.size, bytes := i.bytes, agg := isAggD d, desc := d, zero := i.zero.bind ofValue, plain := !P.eqGuardType P.depth t && !P.stoodInHeld t }
    else none
  | _, _ => none

theorem mkTI_ok {P : Program} {t : Nat} {ti : TI} (h : mkTI P t = some ti) : ∃ i, TyOK P ti t i := by
  unfold mkTI at h
  split at h
  · rename_i i d hi hd
    split at h
    · rename_i hc
      cases h
      simp only [Bool.and_eq_true, Bool.or_eq_true, beq_iff_eq] at hc
      refine ⟨i, hi, rfl, rfl, hd, rfl, fun z hz => ?_, fun h => ?_, fun v hv => ?_, fun h => ?_⟩
      · obtain ⟨v, h1, h2⟩ := Option.bind_eq_some_iff.1 hz
        exact ⟨v, h1, h2⟩
      · rcases hc.1 with h1 | h1
        · rw [h1] at h; cases h
        · exact h1
      · have := hc.2
        unfold zeroFits at this
        rw [hv] at this
        simpa using this
      · simpa using h
    · cases h
  · cases h

def mkLow (P : Program) (gl : Nat → Option AV) (muty : Nat → Bool) (lies : Nat → List (TypeId × Nat × Nat)) (ints : List Nat) : Low := { ty := mkTI P, gl, muty, lies, ints }

theorem mkLow_ok {P : Program} {gl : Nat → Option AV} {muty : Nat → Bool} {lies : Nat → List (TypeId × Nat × Nat)} {ints : List Nat} (hm : P.follows .mixedOrders = true)
    (hl : ∀ t e n o, (e, n, o) ∈ lies t → P.cellsOf e = n ∧ o < n ∧ liesAt P P.depth e 1 o t 1 = true) : LowOK P (mkLow P gl muty lies ints) :=
  ⟨fun _ _ h => mkTI_ok h, hm, hl⟩

def mkFn (P : Program) (L : Low) (ks : Nat → EC → List ERes → EC → List Bool) (f : Nat) : Option EFn :=
  match P.funcs[f]? with
  | some fn => if fn.name = "runtime.NumGoroutine" then none else lowFn L (ks f) fn
  | none => none

theorem mkFn_ok (P : Program) (L : Low) (ks : Nat → EC → List ERes → EC → List Bool) : FnsOK P L (mkFn P L ks) := by
  intro f efn h
  unfold mkFn at h
  split at h
  · rename_i fn hf
    split at h
    · cases h
    · rename_i hn
      exact ⟨fn, lowFn_ok hf hn h⟩
  · cases h

def mkProg (P : Program) (L : Low) (ks : Nat → EC → List ERes → EC → List Bool) (prim : Nat → Option (List AV → St → COut)) : EProg := { rt := rtOf P, fn := mkFn P L ks, prim }

/-- The same without any letting go. -/
def mkFn0 (P : Program) (L : Low) (f : Nat) : Option EFn :=
  match P.funcs[f]? with
  | some fn => if fn.name = "runtime.NumGoroutine" then none else lowFn0 L fn
  | none => none

theorem mkFn0_ok (P : Program) (L : Low) : FnsOK P L (mkFn0 P L) := by
  intro f efn h
  unfold mkFn0 at h
  split at h
  · rename_i fn hf
    split at h
    · cases h
    · rename_i hn
      exact ⟨fn, lowFn0_ok hf hn h⟩
  · cases h

def mkProg0 (P : Program) (L : Low) (prim : Nat → Option (List AV → St → COut)) : EProg := { rt := rtOf P, fn := mkFn0 P L, prim }

theorem mkProg0_ok {P : Program} {L : Low} (hL : LowOK P L) {prim : Nat → Option (List AV → St → COut)} (hp : ∀ f p, prim f = some p → PrimOK P L f p) : ProgOK P L (mkProg0 P L prim) :=
  ⟨hL, rfl, mkFn0_ok P L, hp⟩

theorem mkProg_ok {P : Program} {L : Low} (hL : LowOK P L) (ks : Nat → EC → List ERes → EC → List Bool) {prim : Nat → Option (List AV → St → COut)} (hp : ∀ f p, prim f = some p → PrimOK P L f p) : ProgOK P L (mkProg P L ks prim) :=
  ⟨hL, rfl, mkFn_ok P L ks, hp⟩

/-- What the evaluator says of a function is so. -/
theorem callN_calls {P : Program} {L : Low} {X : EProg} (h : ProgOK P L X) {n : Nat} {f : FuncId} {args : List AV} {s s' : St} {v : AV} (hrun : callN X n f args s = .ret v s') (hp : X.prim f = none)
    {G : Gh} {w : World} {args' : Array Value} (hi : Inv G s w) (hg : GlOK L G) (hv : VL G args args'.toList) :
    Calls P f args' w fun e w' => ∃ v' G', e = .returned v' ∧ Post G s w G' s' w' ∧ V G' v v' := by
  cases n with
  | zero => cases hrun
  | succ n =>
    simp only [callN, hp] at hrun
    cases hf : X.fn f with
    | none => rw [hf] at hrun; cases hrun
    | some efn =>
      rw [hf] at hrun
      simp only at hrun
      obtain ⟨fn, hfn⟩ := h.fns f efn hf
      have ih := callN_ok h n
      have := runFn_sound h.low ih (draw_sound h.low ih) h.fns hfn n hi hg hv
      rw [h.rt] at hrun
      rw [hrun] at this
      exact this _ (fun e w' he => by
        cases e with
        | returned v' => obtain ⟨G', h1, h2⟩ := he; exact ⟨v', G', rfl, h1, h2⟩
        | _ => exact he.elim)

/-! The start of a call from outside: nothing is known of memory but what is laid. -/

def Gh.start (imm : Nat → Nat → Option Value) (sz : TypeId → Nat) : Gh := { imm, blk := fun _ => none, tok := fun _ => none, room := fun _ => none, sz }

def St.start : St := { next := 0, heap := .nil }

theorem Inv.start {imm : Nat → Nat → Option Value} {sz : TypeId → Nat} {w : World} (h : ∀ b o v, imm b o = some v → w.cell? ⟨b, o, none⟩ = some v) : Inv (Gh.start imm sz) St.start w where
  room := fun b K hb => by cases hb
  imm := h
  obj := fun r ob hr => by simp [St.start, Tr.get] at hr
  tok := fun r el hr => by simp [St.start, Tr.get] at hr
  tokEl := fun r el x b e k hr => by simp [St.start, Tr.get] at hr
  blkInj := fun r q b hr => by simp [St.start, Tr.get] at hr
  blkImm := fun r b o hb => by cases hb
  blkTok := fun r q b e k hb => by cases hb
  tokSep := fun r q b e k e' k' t u hr => by simp [St.start, Tr.get] at hr
  tokTop := fun r q b e k e' k' t hr => by simp [St.start, Tr.get] at hr
  fresh := fun r _ => ⟨rfl, rfl, rfl⟩
  blkLt := fun r b hb => by cases hb
  tokLt := fun r b e k hb => by cases hb

/-- Nothing that was there has changed. -/
theorem Kept.start {imm : Nat → Nat → Option Value} {sz : TypeId → Nat} {s : St} {w w' : World} (h : Kept (Gh.start imm sz) s w w') : w.heap.size ≤ w'.heap.size ∧ w'.os = w.os ∧ w'.tape = w.tape ∧ w'.output = w.output ∧ ∀ b, b < w.heap.size → w'.heap[b]? = w.heap[b]? :=
  ⟨h.size, h.os, h.tape, h.output, fun b hb => h.block b hb (fun r hr => by cases hr) (fun r e k hr => by cases hr)⟩
end GoE

/- More fuel changes nothing: the evaluator's runs, one by one. No condition. -/
namespace GoE
open Go

def COut.good : COut → Bool
  | .fail _ => false
  | _ => true

def Out.good : Out → Bool
  | .fail _ => false
  | _ => true

/-- One caller answers wherever the other one does, and alike. -/
def CallLe (c d : FuncId → List AV → St → COut) : Prop := ∀ f args s, (c f args s).good = true → d f args s = c f args s

section
variable (R : Rt) {c d : FuncId → List AV → St → COut}

theorem execOps_mono (h : CallLe c d) : ∀ (l : List EOp) (fr : Fr) (s : St), (execOps R c l fr s).good = true → execOps R d l fr s = execOps R c l fr s
  | [], fr, s, _ => rfl
  | o :: l, fr, s, hg => by
    simp only [execOps] at hg ⊢
    split
    · rfl
    · rename_i hw; simp only [hw] at hg; exact execOps_mono h l _ _ hg
    · rename_i hw
      simp only [hw] at hg
      cases ho : opV R fr.tmps s o.k with
      | val v => simp only [ho] at hg ⊢; exact execOps_mono h l _ _ hg
      | new ob mk => simp only [ho] at hg ⊢; exact execOps_mono h l _ _ hg
      | eff v s' => simp only [ho] at hg ⊢; exact execOps_mono h l _ _ hg
      | panic v => rfl
      | defer f args => simp only [ho] at hg ⊢; exact execOps_mono h l _ _ hg
      | recover =>
        simp only [ho] at hg ⊢
        cases hr : fr.rcv with
        | off => rfl
        | none => simp only [hr] at hg ⊢; exact execOps_mono h l _ _ hg
        | avail v => simp only [hr] at hg ⊢; exact execOps_mono h l _ _ hg
        | taken => simp only [hr] at hg ⊢; exact execOps_mono h l _ _ hg
      | call f args =>
        simp only [ho] at hg ⊢
        have hc : (c f args s).good = true := by
          cases hx : c f args s with
          | fail w => rw [hx] at hg; exact hg
          | ret _ _ => rfl
          | panic _ _ => rfl
        rw [h f args s hc]
        cases hx : c f args s with
        | fail w => rfl
        | ret v s' => rw [hx] at hg; exact execOps_mono h l _ _ hg
        | panic v s' => rfl
      | fail w => rfl

theorem execDraw_mono (h : CallLe c d) (base : Nat) : ∀ (l : List DOp) (pos : Nat) (fr : Fr) (s : St) (log : List DLog), (execDraw R c base pos l fr s log).1.good = true →
    execDraw R d base pos l fr s log = execDraw R c base pos l fr s log
  | [], pos, fr, s, log, _ => rfl
  | o :: l, pos, fr, s, log, hg => by
    simp only [execDraw] at hg ⊢
    split
    · rfl
    · rename_i hw; simp only [hw] at hg; exact execDraw_mono h base l _ _ _ _ hg
    · rename_i hw
      simp only [hw] at hg
      cases ho : opV R fr.tmps s o.op.k with
      | val v => simp only [ho] at hg ⊢; exact execDraw_mono h base l _ _ _ _ hg
      | new ob mk =>
        simp only [ho] at hg ⊢
        cases hc : o.op.k.cls with
        | a => simp only [hc] at hg ⊢; exact execDraw_mono h base l _ _ _ _ hg
        | w => simp only [hc] at hg ⊢; exact execDraw_mono h base l _ _ _ _ hg
        | p => rfl
        | l => rfl
      | eff v s' =>
        simp only [ho] at hg ⊢
        cases hc : o.op.k.cls with
        | w => simp only [hc] at hg ⊢; exact execDraw_mono h base l _ _ _ _ hg
        | a => rfl
        | p => rfl
        | l => rfl
      | panic v => rfl
      | call f args =>
        simp only [ho] at hg ⊢
        cases hcl : o.op.k.cls with
        | w =>
          simp only [hcl] at hg ⊢
          have hc : (c f args s).good = true := by
            cases hx : c f args s with
            | fail w => rw [hx] at hg; exact hg
            | ret _ _ => rfl
            | panic _ _ => rfl
          rw [h f args s hc]
          cases hx : c f args s with
          | fail w => rfl
          | ret v s' => rw [hx] at hg; exact execDraw_mono h base l _ _ _ _ hg
          | panic v s' => rfl
        | a => rfl
        | p => rfl
        | l => rfl
      | _ => rfl

theorem runDraw_mono (h : CallLe c d) (l : List DOp) (fr : Fr) (s : St) (hg : (runDraw R c l fr s).good = true) : runDraw R d l fr s = runDraw R c l fr s := by
  unfold runDraw at hg ⊢
  have hg' : (execDraw R c s.next 0 l fr { s with next := s.next + l.length } []).1.good = true := by
    cases hx : execDraw R c s.next 0 l fr { s with next := s.next + l.length } [] with
    | mk o log =>
      rw [hx] at hg
      cases o with
      | fail w => exact hg
      | ok e fr' s' => rfl
  rw [execDraw_mono R h _ l 0 fr _ [] hg']

theorem exec_mono (h : CallLe c d) : ∀ (n m : Nat), n ≤ m → ∀ (e : EC) (fr : Fr) (s : St), (exec R c n e fr s).good = true → exec R d m e fr s = exec R c n e fr s
  | 0, _, _, e, fr, s, hg => by simp only [exec, Out.good] at hg; cases hg
  | n + 1, 0, hle, e, fr, s, _ => by omega
  | n + 1, m + 1, hle, e, fr, s, hg => by
    have ih := exec_mono h n m (by omega)
    -- one body and what comes behind it
    have two : ∀ (b : EC) (fr : Fr) (s : St) (k k' : Out → Out), (∀ w, (k (.fail w)).good = false) → (k (exec R c n b fr s)).good = true → (∀ o, (k o).good = true → k' o = k o) → k' (exec R d m b fr s) = k (exec R c n b fr s) := by
      intro b fr s k k' hk hg hk'
      have hb : (exec R c n b fr s).good = true := by
        cases hx : exec R c n b fr s with
        | fail w => rw [hx, hk] at hg; cases hg
        | ok _ _ _ => rfl
      rw [ih b fr s hb]
      exact hk' _ hg
    cases e with
    | skip => rfl
    | label l => rfl
    | exit id => rfl
    | goto l => rfl
    | ret => rfl
    | stop => rfl
    | ops l => simp only [exec] at hg ⊢; exact execOps_mono R h l fr s hg
    | draw l => simp only [exec] at hg ⊢; exact runDraw_mono R h l fr s hg
    | seq a b =>
      simp only [exec] at hg ⊢
      refine two a fr s (fun o => match o with | .ok .normal fr s => exec R c n b fr s | o => o) (fun o => match o with | .ok .normal fr s => exec R d m b fr s | o => o) (fun _ => rfl) hg (fun o ho => ?_)
      cases o with
      | fail w => rfl
      | ok e fr s => cases e <;> first | rfl | exact ih b _ _ ho
    | cond x a b =>
      simp only [exec] at hg ⊢
      split
      · rename_i t ht; simp only [ht] at hg; exact ih _ _ _ hg
      · rfl
    | block id b =>
      simp only [exec] at hg ⊢
      exact two b fr s (fun o => match o with | .ok (.exit i) fr s => if i = id then .ok .normal fr s else .ok (.exit i) fr s | o => o) (fun o => match o with | .ok (.exit i) fr s => if i = id then .ok .normal fr s else .ok (.exit i) fr s | o => o) (fun _ => rfl) hg (fun o ho => rfl)
    | loop kl b =>
      simp only [exec] at hg ⊢
      refine two b (fr.kill kl) s (fun o => match o with | .ok .normal fr s => exec R c n (.loop kl b) fr s | o => o) (fun o => match o with | .ok .normal fr s => exec R d m (.loop kl b) fr s | o => o) (fun _ => rfl) hg (fun o ho => ?_)
      cases o with
      | fail w => rfl
      | ok e fr s => cases e <;> first | rfl | exact ih _ _ _ ho
    | scope b => simp only [exec] at hg ⊢; exact ih _ _ _ hg
    | scopeAt w b =>
      simp only [exec] at hg ⊢
      refine two b fr s (fun o => match o with | .ok (.goto l) fr s => (match w.find l with | some rest => exec R c n (.scopeAt w rest) fr s | none => .ok (.goto l) fr s) | o => o)
        (fun o => match o with | .ok (.goto l) fr s => (match w.find l with | some rest => exec R d m (.scopeAt w rest) fr s | none => .ok (.goto l) fr s) | o => o) (fun _ => rfl) hg (fun o ho => ?_)
      cases o with
      | fail w => rfl
      | ok e fr s =>
        cases e with
        | goto l =>
          simp only at ho ⊢
          cases hf : w.find l with
          | none => rfl
          | some rest => simp only [hf] at ho ⊢; exact ih _ _ _ ho
        | _ => rfl

theorem execD_mono (h : CallLe c d) : ∀ (n m : Nat), n ≤ m → ∀ (e : EC) (fr : Fr) (s : St), (execD R c n e fr s).good = true → execD R d m e fr s = execD R c n e fr s
  | 0, _, _, e, fr, s, hg => by simp only [execD, Out.good] at hg; cases hg
  | n + 1, 0, hle, e, fr, s, _ => by omega
  | n + 1, m + 1, hle, e, fr, s, hg => by
    have ih := execD_mono h n m (by omega)
    have rest : ∀ e : EC, (match exec R c n e { fr with rcv := .off } s with | .ok e fr' s => Out.ok e { fr' with rcv := fr.rcv } s | o => o).good = true →
        (match exec R d m e { fr with rcv := .off } s with | .ok e fr' s => Out.ok e { fr' with rcv := fr.rcv } s | o => o) = (match exec R c n e { fr with rcv := .off } s with | .ok e fr' s => Out.ok e { fr' with rcv := fr.rcv } s | o => o) := by
      intro e hg
      rw [exec_mono R h n m (by omega) e _ _ (by
        cases hx : exec R c n e { fr with rcv := .off } s with
        | fail w => rw [hx] at hg; exact hg
        | ok _ _ _ => rfl)]
    cases e with
    | ops l => simp only [execD] at hg ⊢; exact execOps_mono R h l fr s hg
    | seq a b =>
      simp only [execD] at hg ⊢
      have hb : (execD R c n a fr s).good = true := by
        cases hx : execD R c n a fr s with
        | fail w => rw [hx] at hg; exact hg
        | ok _ _ _ => rfl
      rw [ih a fr s hb]
      cases hx : execD R c n a fr s with
      | fail w => rfl
      | ok e fr s =>
        rw [hx] at hg
        cases e <;> first | rfl | exact ih b _ _ hg
    | cond x a b =>
      simp only [execD] at hg ⊢
      split
      · rename_i t ht; simp only [ht] at hg; exact ih _ _ _ hg
      · rfl
    | _ => simp only [execD] at hg ⊢; exact rest _ hg

theorem leave_mono (h : CallLe c d) {n m : Nat} (hle : n ≤ m) (fns : Nat → Option EFn) (fn : EFn) (tmps : List AV) : ∀ (ds : List (AV × List AV)) (v : Option AV) (s : St), (leave R c n fns fn tmps ds v s).good = true →
    leave R d m fns fn tmps ds v s = leave R c n fns fn tmps ds v s
  | [], none, s, hg => rfl
  | [], some v, s, hg => rfl
  | (x, args) :: ds, v, s, hg => by
    cases x with
    | func fq first cap =>
      cases fq with
      | func g =>
        simp only [leave] at hg ⊢
        cases hf : fns g with
        | none => rfl
        | some gfn =>
          simp only [hf] at hg ⊢
          have hb : (execD R c n gfn.body (gfn.enter (first ++ args ++ cap) (rcvOf v)) s).good = true := by
            cases hx : execD R c n gfn.body (gfn.enter (first ++ args ++ cap) (rcvOf v)) s with
            | fail w => rw [hx] at hg; exact hg
            | ok _ _ _ => rfl
          rw [execD_mono R h n m hle _ _ _ hb]
          cases hx : execD R c n gfn.body (gfn.enter (first ++ args ++ cap) (rcvOf v)) s with
          | fail w => rfl
          | ok e fr s' =>
            rw [hx] at hg
            cases e <;> first
              | rfl
              | (simp only at hg ⊢
                 split
                 · rename_i he
                   rw [if_pos he] at hg
                   cases hr : resultsV s' gfn fr.tmps with
                   | none => rfl
                   | some _ => rw [hr] at hg; exact leave_mono h hle fns fn tmps ds _ _ hg
                 · rfl)
      | _ => rfl
    | _ => rfl

theorem runFn_mono (h : CallLe c d) {n m : Nat} (hle : n ≤ m) (fns : Nat → Option EFn) (fn : EFn) (args : List AV) (s : St) (hg : (runFn R c n fns fn args s).good = true) :
    runFn R d m fns fn args s = runFn R c n fns fn args s := by
  unfold runFn at hg ⊢
  have hb : (exec R c n fn.body (fn.enter args .off) s).good = true := by
    cases hx : exec R c n fn.body (fn.enter args .off) s with
    | fail w => rw [hx] at hg; exact hg
    | ok _ _ _ => rfl
  rw [exec_mono R h n m hle _ _ _ hb]
  cases hx : exec R c n fn.body (fn.enter args .off) s with
  | fail w => rfl
  | ok e fr s' =>
    rw [hx] at hg
    cases e <;> first | rfl | exact leave_mono R h hle _ _ _ _ _ _ hg
end

theorem callN_mono (X : EProg) : ∀ (n m : Nat), n ≤ m → CallLe (callN X n) (callN X m)
  | 0, _, _, f, args, s, hg => by simp only [callN, COut.good] at hg; cases hg
  | n + 1, 0, hle, f, args, s, _ => by omega
  | n + 1, m + 1, hle, f, args, s, hg => by
    have ih := callN_mono X n m (by omega)
    simp only [callN] at hg ⊢
    cases hp : X.prim f with
    | some p => rfl
    | none =>
      simp only [hp] at hg ⊢
      cases hf : X.fn f with
      | none => rfl
      | some fn => simp only [hf] at hg ⊢; exact runFn_mono X.rt ih (by omega) _ _ _ _ hg
end GoE

/- A call whose arguments hold no reference is run as in an empty memory: what it makes is let go, and what it gives back is frozen. No condition. -/
namespace GoE
open Go

mutual
/-- Does the value hold no reference into the memory that is set aside? -/
def AV.pure : AV → Bool
  | .ptr .. | .tptr .. | .arr .. | .map _ => false
  | .slice _ t es => (match t with | .id _ => false | _ => true) && AV.pureL es
  | .iptr cs _ => AV.pureL cs
  | .func _ f c => AV.pureL f && AV.pureL c
  | .iface _ v => v.pure
  | .agg cs | .tuple cs => AV.pureL cs
  | _ => true
def AV.pureL : List AV → Bool
  | [] => true
  | a :: l => a.pure && AV.pureL l
end

theorem AV.pureL_iff : ∀ (l : List AV), AV.pureL l = true ↔ ∀ a, a ∈ l → a.pure = true
  | [] => by simp [AV.pureL]
  | a :: l => by simp [AV.pureL, AV.pureL_iff l]

theorem AV.pure_cells {a : AV} (h : a.pure = true) : ∀ c, c ∈ a.cells → c.pure = true := by
  intro c hc
  cases a <;> simp only [AV.cells, List.mem_singleton] at hc <;> first
    | (subst hc; exact h)
    | (simp only [AV.pure] at h; exact (AV.pureL_iff _).1 h c hc)

theorem AV.pure_cellsL {es : List AV} (h : AV.pureL es = true) : ∀ c, c ∈ es.flatMap AV.cells → c.pure = true := by
  intro c hc
  obtain ⟨e, he, hc⟩ := List.mem_flatMap.1 hc
  exact AV.pure_cells ((AV.pureL_iff _).1 h e he) c hc

/-- Such a value is what it is by what is known for good alone. -/
theorem V.pure {G G' : Gh} (hle : ∀ b o v, G.imm b o = some v → G'.imm b o = some v) {a : AV} {v : Value} (h : V G a v) : a.pure = true → V G' a v := by
  induction h with
  | junk v => intro _; exact .junk v
  | undef => intro _; exact .undef
  | bool b => intro _; exact .bool b
  | int k n => intro _; exact .int k n
  | str s => intro _; exact .str s
  | nilptr => intro _; exact .nilptr
  | ptr r off b h => intro hp; cases hp
  | iptr cells off b o vs hl hi _ h1 ih =>
    intro hp
    simp only [AV.pure] at hp
    exact .iptr cells off b o vs hl (fun i v h => hle _ _ _ (hi i v h)) (fun i c v hc hv => ih i c v hc hv ((AV.pureL_iff _).1 hp c (List.mem_of_getElem? hc))) h1
  | tptr r cells b o k vs hl ht hi _ h1 ih => intro hp; cases hp
  | nilslice => intro _; exact .nilslice
  | slice sz t es b o cap vs hsz hes hl hi _ h1 hcap hx ht ih =>
    intro hp
    simp only [AV.pure, Bool.and_eq_true] at hp
    exact .slice sz t es b o cap vs hsz hes hl (fun i v h => hle _ _ _ (hi i v h)) (fun i c v hc hv => ih i c v hc hv (AV.pure_cellsL hp.2 c (List.mem_of_getElem? hc))) h1 hcap hx
      (fun n hn => by subst hn; cases hp.1)
  | arr r off len cap co b off' h hc hcap ho hk => intro hp; cases hp
  | map r b h => intro hp; cases hp
  | nilmap => intro _; exact .nilmap
  | func fn f c f' c' hf hc _ _ ih1 ih2 =>
    intro hp
    simp only [AV.pure, Bool.and_eq_true] at hp
    exact .func fn f c f' c' hf hc (fun i a v ha hv => ih1 i a v ha hv ((AV.pureL_iff _).1 hp.1 a (List.mem_of_getElem? ha))) (fun i a v ha hv => ih2 i a v ha hv ((AV.pureL_iff _).1 hp.2 a (List.mem_of_getElem? ha)))
  | nilFunc => intro _; exact .nilFunc
  | iface t a v _ ih => intro hp; exact .iface t a v (ih (by simpa [AV.pure] using hp))
  | nilIface => intro _; exact .nilIface
  | agg cs vs hl _ h1 ih =>
    intro hp
    simp only [AV.pure] at hp
    exact .agg cs vs hl (fun i c v hc hv => ih i c v hc hv ((AV.pureL_iff _).1 hp c (List.mem_of_getElem? hc))) h1
  | tuple cs vs hl _ ih =>
    intro hp
    simp only [AV.pure] at hp
    exact .tuple cs vs hl (fun i c v hc hv => ih i c v hc hv ((AV.pureL_iff _).1 hp c (List.mem_of_getElem? hc)))

theorem VL.pure {G G' : Gh} (hle : ∀ b o v, G.imm b o = some v → G'.imm b o = some v) {as : List AV} {vs : List Value} (h : VL G as vs) (hp : AV.pureL as = true) : VL G' as vs :=
  ⟨h.1, fun i c v hc hv => (h.2 i c v hc hv).pure hle ((AV.pureL_iff _).1 hp c (List.mem_of_getElem? hc))⟩

/-! ### What a call gave back, read once for all -/
section
variable (L : Low) (s : St)

mutual
/-- 'none': it holds what can't be frozen. -/
def frz : Nat → AV → Option AV
  | 0, _ => none
  | n + 1, v => match v with
    | .ptr .. | .tptr .. | .map _ => none
    | .arr r off len _ => match s.heap.get r with
      | some (.cells e c) => match L.ty e with
        | some ti => if ti.size = 0 then none else match ltake c off (len * ti.size) with
          | some cs => match frzL n cs with
            | some cs => if (groupEls ti.agg ti.size len cs).all (fun x => x.cells.length == ti.size) && AV.beqL ((groupEls ti.agg ti.size len cs).flatMap AV.cells) cs && (groupEls ti.agg ti.size len cs).length == len then some (.slice ti.size .closed (groupEls ti.agg ti.size len cs)) else none
            | none => none
          | none => none
        | none => none
      | _ => none
    | .slice z _ es => match frzL n es with
      | some fs => if fs.all (fun x => x.cells.length == z) then some (.slice z .closed fs) else none
      | none => none
    | .iptr cs o => (frzL n cs).map (.iptr · o)
    | .func fn f c => match frzL n f, frzL n c with
      | some f, some c => some (.func fn f c)
      | _, _ => none
    | .iface t v => (frz n v).map (.iface t)
    | .agg cs => (frzL n cs).map .agg
    | .tuple cs => (frzL n cs).map .tuple
    | v => some v
def frzL : Nat → List AV → Option (List AV)
  | 0, _ => none
  | _ + 1, [] => some []
  | n + 1, a :: l => match frz n a, frzL n l with
    | some x, some xs => some (x :: xs)
    | _, _ => none
end
end

theorem frzL_length {L : Low} {s : St} : ∀ (n : Nat) (l fs : List AV), frzL L s n l = some fs → fs.length = l.length
  | 0, l, fs, h => by simp [frzL] at h
  | n + 1, [], fs, h => by simp only [frzL, Option.some.injEq] at h; subst h; rfl
  | n + 1, a :: l, fs, h => by
    simp only [frzL] at h
    split at h
    · rename_i x xs h1 h2
      cases h
      simp [frzL_length n l xs h2]
    · cases h

/-- Where all of the memory that is set aside lies in blocks of whose cells all is known. -/
structure Frozen (G G' : Gh) (s : St) (w : World) : Prop where
  imm : ∀ b o v, G.imm b o = some v → G'.imm b o = some v
  obj : ∀ r e c, s.heap.get r = some (.cells e c) → ∃ b o, G.blk r = some b ∧ w.heap[b]? = some o ∧ ObjRel G (.cells e c) o ∧ ∀ i v, w.cell? ⟨b, i, none⟩ = some v → G'.imm b i = some v

mutual
theorem frz_ok {L : Low} {G G' : Gh} {s : St} {w : World} (hf : Frozen G G' s w) : ∀ (n : Nat) (a b : AV), frz L s n a = some b → ∀ v, V G a v → V G' b v ∧ b.pure = true
  | 0, a, b, h, v, hv => by simp [frz] at h
  | n + 1, a, b, h, v, hv => by
    cases hv with
    | ptr => simp [frz] at h
    | tptr => simp [frz] at h
    | map => simp [frz] at h
    | junk v => simp only [frz, Option.some.injEq] at h; subst h; exact ⟨.junk v, rfl⟩
    | undef => simp only [frz, Option.some.injEq] at h; subst h; exact ⟨.undef, rfl⟩
    | bool b => simp only [frz, Option.some.injEq] at h; subst h; exact ⟨.bool b, rfl⟩
    | int k n => simp only [frz, Option.some.injEq] at h; subst h; exact ⟨.int k n, rfl⟩
    | str s => simp only [frz, Option.some.injEq] at h; subst h; exact ⟨.str s, rfl⟩
    | nilptr => simp only [frz, Option.some.injEq] at h; subst h; exact ⟨.nilptr, rfl⟩
    | nilslice => simp only [frz, Option.some.injEq] at h; subst h; exact ⟨.nilslice, rfl⟩
    | nilmap => simp only [frz, Option.some.injEq] at h; subst h; exact ⟨.nilmap, rfl⟩
    | nilFunc => simp only [frz, Option.some.injEq] at h; subst h; exact ⟨.nilFunc, rfl⟩
    | nilIface => simp only [frz, Option.some.injEq] at h; subst h; exact ⟨.nilIface, rfl⟩
    | iface t a v h1 =>
      simp only [frz, Option.map_eq_some_iff] at h
      obtain ⟨x, hx, rfl⟩ := h
      have := frz_ok hf n a x hx v h1
      exact ⟨.iface t x v this.1, this.2⟩
    | agg cs vs hl h1 h2 =>
      simp only [frz, Option.map_eq_some_iff] at h
      obtain ⟨xs, hx, rfl⟩ := h
      obtain ⟨k1, k2⟩ := frzL_ok hf n cs xs hx vs.toList ⟨by simpa using hl, fun i c v hc hv => h1 i c v hc (by simpa using hv)⟩
      exact ⟨.agg xs vs (by simpa using k1.1) (fun i c v hc hv => k1.2 i c v hc (by simpa using hv)) h2, k2⟩
    | tuple cs vs hl h1 =>
      simp only [frz, Option.map_eq_some_iff] at h
      obtain ⟨xs, hx, rfl⟩ := h
      obtain ⟨k1, k2⟩ := frzL_ok hf n cs xs hx vs.toList ⟨by simpa using hl, fun i c v hc hv => h1 i c v hc (by simpa using hv)⟩
      exact ⟨.tuple xs vs (by simpa using k1.1) (fun i c v hc hv => k1.2 i c v hc (by simpa using hv)), k2⟩
    | func fn f c f' c' hfl hcl h1 h2 =>
      simp only [frz] at h
      split at h
      · rename_i x y hx hy
        cases h
        obtain ⟨k1, k2⟩ := frzL_ok hf n f x hx f'.toList ⟨by simpa using hfl, fun i c v hc hv => h1 i c v hc (by simpa using hv)⟩
        obtain ⟨m1, m2⟩ := frzL_ok hf n c y hy c'.toList ⟨by simpa using hcl, fun i c v hc hv => h2 i c v hc (by simpa using hv)⟩
        exact ⟨.func fn x y f' c' (by simpa using k1.1) (by simpa using m1.1) (fun i c v hc hv => k1.2 i c v hc (by simpa using hv)) (fun i c v hc hv => m1.2 i c v hc (by simpa using hv)), by simp [AV.pure, k2, m2]⟩
      · cases h
    | iptr cells off bb o vs hl hii h1 h2 =>
      simp only [frz, Option.map_eq_some_iff] at h
      obtain ⟨xs, hx, rfl⟩ := h
      obtain ⟨k1, k2⟩ := frzL_ok hf n cells xs hx vs ⟨hl, h1⟩
      exact ⟨.iptr xs off bb o vs k1.1 (fun i v h => hf.imm _ _ _ (hii i v h)) k1.2 h2, k2⟩
    | slice sz t es bb o cap vs hsz hes hl hii h1 h2 hcap hx ht =>
      simp only [frz] at h
      split at h
      · rename_i fs hfs
        split at h
        · rename_i hall
          cases h
          have hsz' : ∀ e, e ∈ fs → e.cells.length = sz := fun e he => by simpa using List.all_eq_true.1 hall e he
          have hlen := frzL_length n es fs hfs
          have flen : ∀ (l : List AV), (∀ e, e ∈ l → e.cells.length = sz) → (l.flatMap AV.cells).length = l.length * sz := by
            intro l
            induction l with
            | nil => intro _; simp
            | cons a l ih =>
              intro ha
              simp only [List.flatMap_cons, List.length_append, List.length_cons]
              rw [ih (fun e he => ha e (by simp [he])), ha a (by simp), Nat.succ_mul]
              omega
          obtain ⟨k1, k2⟩ := frzC_ok hf n es fs hfs (fun e he => hes e he) hsz' vs ⟨hl, h1⟩
          exact ⟨hlen ▸ .slice sz .closed fs bb o cap vs hsz hsz' k1.1 (fun i v h => hf.imm _ _ _ (hii i v h)) k1.2 h2 (by omega) (fun h => by cases h) (fun n h => by cases h), by simp [AV.pure, k2]⟩
        · cases h
      · cases h
    | arr r off len cap co bb off' hb hc hcap ho hk =>
      simp only [frz] at h
      split at h <;> try (cases h; done)
      rename_i e c hr
      split at h <;> try (cases h; done)
      rename_i ti hty
      split at h
      · cases h
      rename_i hz
      split at h <;> try (cases h; done)
      rename_i cs hcs
      split at h <;> try (cases h; done)
      rename_i fs hfs
      split at h
      · rename_i hall
        cases h
        simp only [Bool.and_eq_true, beq_iff_eq] at hall
        obtain ⟨⟨hall, hbeq⟩, hglen⟩ := hall
        have hbq := AV.beqL_eq _ _ hbeq
        obtain ⟨b', o, e1, e2, e3, e4⟩ := hf.obj r _ _ hr
        rw [hb] at e1
        cases e1
        obtain ⟨vs, lo, hi', rfl, g1, g2, g3⟩ := e3
        unfold ltake at hcs
        split at hcs
        · rename_i hle
          cases hcs
          have hl0 : (vs.toList.drop off).take (len * ti.size) = (vs.toList.drop off).take (len * ti.size) := rfl
          have hVL : VL G ((c.drop off).take (len * ti.size)) ((vs.toList.drop off).take (len * ti.size)) := by
            refine ⟨by simp; omega, fun i x v hx hv => ?_⟩
            rw [List.getElem?_take] at hx hv
            split at hx
            · rename_i hlt
              rw [if_pos hlt] at hv
              rw [List.getElem?_drop] at hx hv
              exact (g2 (off + i) x v hx (by simpa using hv)).1
            · cases hx
          obtain ⟨k1, k2⟩ := frzL_ok hf n _ fs hfs _ hVL
          have hcell : ∀ (i : Nat) (v : Value), ((vs.toList.drop off).take (len * ti.size))[i]? = some v → G'.imm bb (off + i) = some v ∧ v.oneCell' = true := by
            intro i v hv
            rw [List.getElem?_take] at hv
            split at hv
            · rename_i hlt
              rw [List.getElem?_drop] at hv
              have hv' : vs[off + i]? = some v := by simpa using hv
              have hlt2 : off + i < c.length := by omega
              refine ⟨e4 (off + i) v ?_, (g2 (off + i) c[off + i] v (List.getElem?_eq_getElem hlt2) hv').2⟩
              rw [cell_cells e2]
              exact hv'
            · cases hv
          have key : V G' (.slice ti.size .closed (groupEls ti.agg ti.size len fs)) (.slice (some ⟨bb, off', none⟩) (groupEls ti.agg ti.size len fs).length cap) := by
            rcases ho with ho | ho
            · subst ho
              refine .slice ti.size .closed _ bb off' cap _ (by omega) (fun x hx => by simpa using List.all_eq_true.1 hall x hx) (by rw [hbq]; exact k1.1) (fun i v hv => (hcell i v hv).1) (fun i c v hc hv => k1.2 i c v (by rw [← hbq]; exact hc) hv) (fun i v hv => (hcell i v hv).2) (by omega) (fun h => by cases h) (fun n h => by cases h)
            · have h0 : len = 0 := by omega
              have hnil : groupEls ti.agg ti.size len fs = [] := List.length_eq_zero_iff.1 (by omega)
              rw [hnil]
              exact .slice ti.size .closed [] bb off' cap [] (by omega) (fun e he => by cases he) rfl (fun i v hv => by simp at hv) (fun i c v hc hv => by simp at hv) (fun i v hv => by simp at hv) (by simp) (fun h => by cases h) (fun n h => by cases h)
          refine ⟨by rw [hglen] at key; exact key, ?_⟩
          simp only [AV.pure, Bool.true_and]
          refine (AV.pureL_iff _).2 (fun x hx => ?_)
          have hxc : ∀ y, y ∈ x.cells → y.pure = true := fun y hy => (AV.pureL_iff _).1 k2 y (by rw [← hbq]; exact List.mem_flatMap.2 ⟨x, hx, hy⟩)
          cases x with
          | agg cs => simp only [AV.pure]; exact (AV.pureL_iff _).2 (fun y hy => hxc y (by simpa [AV.cells] using hy))
          | _ => exact hxc _ (by simp [AV.cells])
        · cases hcs
      · cases h
theorem frzL_ok {L : Low} {G G' : Gh} {s : St} {w : World} (hf : Frozen G G' s w) : ∀ (n : Nat) (l m : List AV), frzL L s n l = some m → ∀ vs, VL G l vs → VL G' m vs ∧ AV.pureL m = true
  | 0, l, m, h, vs, hv => by simp [frzL] at h
  | n + 1, [], m, h, vs, hv => by
    simp only [frzL, Option.some.injEq] at h
    subst h
    rw [hv.nil_inv]
    exact ⟨VL.nil G', rfl⟩
  | n + 1, a :: l, m, h, vs, hv => by
    simp only [frzL] at h
    split at h
    · rename_i x xs h1 h2
      cases h
      obtain ⟨v, ws, rfl, p1, p2⟩ := hv.cons_inv
      have k1 := frz_ok hf n a x h1 v p1
      have k2 := frzL_ok hf n l xs h2 ws p2
      exact ⟨VL.cons k1.1 k2.1, by simp [AV.pureL, k1.2, k2.2]⟩
    · cases h
/-- Elements, cell by cell. -/
theorem frzC_ok {L : Low} {G G' : Gh} {s : St} {w : World} (hf : Frozen G G' s w) : ∀ (n : Nat) (l m : List AV), frzL L s n l = some m → ∀ {sz : Nat}, (∀ e, e ∈ l → e.cells.length = sz) → (∀ e, e ∈ m → e.cells.length = sz) →
    ∀ vs, VL G (l.flatMap AV.cells) vs → VL G' (m.flatMap AV.cells) vs ∧ AV.pureL m = true
  | 0, l, m, h, sz, _, _, vs, hv => by simp [frzL] at h
  | n + 1, [], m, h, sz, _, _, vs, hv => by
    simp only [frzL, Option.some.injEq] at h
    subst h
    rw [hv.nil_inv]
    exact ⟨VL.nil G', rfl⟩
  | n + 1, a :: l, m, h, sz, hl, hm, vs, hv => by
    simp only [frzL] at h
    split at h
    · rename_i x xs h1 h2
      cases h
      simp only [List.flatMap_cons] at hv ⊢
      have ha := hl a (by simp)
      have hx := hm x (by simp)
      have hd := hv.drop a.cells.length
      have ht := hv.take a.cells.length
      simp only [List.drop_left, List.take_left] at hd ht
      have e : vs = vs.take a.cells.length ++ vs.drop a.cells.length := (List.take_append_drop _ _).symm
      obtain ⟨q1, q2⟩ := frzC_ok hf n l xs h2 (fun e he => hl e (by simp [he])) (fun e he => hm e (by simp [he])) _ hd
      have one : VL G' x.cells (vs.take a.cells.length) ∧ x.pure = true := by
        cases a with
        | agg cs =>
          cases n with
          | zero => simp [frz] at h1
          | succ n =>
            simp only [frz, Option.map_eq_some_iff] at h1
            obtain ⟨ys, hy, rfl⟩ := h1
            exact frzL_ok hf n cs ys hy _ ht
        | _ =>
          obtain ⟨v, ws, hvs, p1, p2⟩ := ht.cons_inv
          have hws := p2.nil_inv
          subst hws
          have k := frz_ok hf n _ x h1 v p1
          have hxc : x.cells = [x] := by
            cases n with
            | zero => simp [frz] at h1
            | succ n =>
              simp only [frz] at h1
              first
                | (cases h1; rfl)
                | (cases h1; done)
                | (simp only [Option.map_eq_some_iff] at h1; obtain ⟨y, _, rfl⟩ := h1; rfl)
                | (repeat' (split at h1)
                   all_goals first | (cases h1; rfl) | (cases h1; done))
          rw [hxc, hvs]
          exact ⟨VL.cons k.1 (VL.nil G'), k.2⟩
      rw [e]
      exact ⟨one.1.append q1, by simp [AV.pureL, one.2, q2]⟩
    · cases h
end

mutual
theorem frz_mono {L : Low} {s : St} : ∀ (n : Nat) (a b : AV), frz L s n a = some b → frz L s (n + 1) a = some b
  | 0, a, b, h => by simp [frz] at h
  | n + 1, a, b, h => by
    cases a <;> (unfold frz at h ⊢; simp only at h ⊢) <;> first
      | exact h
      | (split at h <;> try (cases h; done)
         rename_i e c hr
         split at h <;> try (cases h; done)
         rename_i ti hty
         split at h
         · cases h
         rename_i hz
         split at h <;> try (cases h; done)
         rename_i cs hcs
         split at h <;> try (cases h; done)
         rename_i fs hfs
         simp only [if_neg hz, frzL_mono n _ _ hfs]
         exact h)
      | (simp only [Option.map_eq_some_iff] at h ⊢
         obtain ⟨x, hx, h2⟩ := h
         first | exact ⟨x, frzL_mono n _ _ hx, h2⟩ | exact ⟨x, frz_mono n _ _ hx, h2⟩)
      | (split at h
         · rename_i fs hfs
           rw [frzL_mono n _ _ hfs]
           exact h
         · cases h)
      | (split at h
         · rename_i x y hx hy
           rw [frzL_mono n _ _ hx, frzL_mono n _ _ hy]
           exact h
         · cases h)
theorem frzL_mono {L : Low} {s : St} : ∀ (n : Nat) (a b : List AV), frzL L s n a = some b → frzL L s (n + 1) a = some b
  | 0, a, b, h => by simp [frzL] at h
  | n + 1, [], b, h => by simpa [frzL] using h
  | n + 1, a :: l, b, h => by
    unfold frzL at h ⊢
    split at h
    · rename_i x xs h1 h2
      rw [frz_mono n a x h1, frzL_mono n l xs h2]
      exact h
    · cases h
end

theorem frz_le {L : Low} {s : St} {n m : Nat} (h : n ≤ m) {a b : AV} (h1 : frz L s n a = some b) : frz L s m a = some b := by
  induction h with
  | refl => exact h1
  | step _ ih => exact frz_mono _ _ _ ih
theorem frzL_le {L : Low} {s : St} {n m : Nat} (h : n ≤ m) {a b : List AV} (h1 : frzL L s n a = some b) : frzL L s m a = some b := by
  induction h with
  | refl => exact h1
  | step _ ih => exact frzL_mono _ _ _ ih

/-- Frozen, with as much fuel as it takes. -/
def Frz (L : Low) (s : St) (a b : AV) : Prop := ∃ n, frz L s n a = some b
def FrzL (L : Low) (s : St) (a b : List AV) : Prop := ∃ n, frzL L s n a = some b

theorem Frz.unique {L : Low} {s : St} {a b c : AV} (h : Frz L s a b) (k : Frz L s a c) : b = c := by
  obtain ⟨n, hn⟩ := h
  obtain ⟨m, hm⟩ := k
  have h1 := frz_le (Nat.le_max_left n m) hn
  have h2 := frz_le (Nat.le_max_right n m) hm
  rw [h1] at h2
  exact Option.some.inj h2
theorem FrzL.unique {L : Low} {s : St} {a b c : List AV} (h : FrzL L s a b) (k : FrzL L s a c) : b = c := by
  obtain ⟨n, hn⟩ := h
  obtain ⟨m, hm⟩ := k
  have h1 := frzL_le (Nat.le_max_left n m) hn
  have h2 := frzL_le (Nat.le_max_right n m) hm
  rw [h1] at h2
  exact Option.some.inj h2

/-- What a call comes to in an empty memory, what it gives back frozen. -/
inductive PureRun (L : Low) (call : FuncId → List AV → St → COut) (f : FuncId) (args : List AV) : AV → Bool → Prop
  | ret (as : List AV) (v v' : AV) (s : St) (ha : FrzL L St.start args as) (hc : call f as St.start = .ret v s) (hv : Frz L s v v') : PureRun L call f args v' true
  | panic (as : List AV) (v v' : AV) (s : St) (ha : FrzL L St.start args as) (hc : call f as St.start = .panic v s) (hv : Frz L s v v') : PureRun L call f args v' false

theorem PureRun.unique {L : Low} {call : FuncId → List AV → St → COut} {f : FuncId} {args : List AV} {v w : AV} {b c : Bool} (h : PureRun L call f args v b) (k : PureRun L call f args w c) : v = w ∧ b = c := by
  cases h with
  | ret as v v' s ha hc hv =>
    cases k with
    | ret as2 v2 v2' s2 ha2 hc2 hv2 =>
      rw [ha.unique ha2, hc2] at hc
      cases hc
      exact ⟨hv.unique hv2, rfl⟩
    | panic as2 v2 v2' s2 ha2 hc2 hv2 =>
      rw [ha.unique ha2, hc2] at hc
      cases hc
  | panic as v v' s ha hc hv =>
    cases k with
    | ret as2 v2 v2' s2 ha2 hc2 hv2 =>
      rw [ha.unique ha2, hc2] at hc
      cases hc
    | panic as2 v2 v2' s2 ha2 hc2 hv2 =>
      rw [ha.unique ha2, hc2] at hc
      cases hc
      exact ⟨hv.unique hv2, rfl⟩

theorem Leads.mono {P : Program} {r : Result Next} {Q R : Ending → World → Prop} (h : Leads P r Q) (hQ : ∀ e w, Q e w → R e w) : Leads P r R := by
  unfold Leads at h ⊢
  split at h
  · exact hQ _ _ h
  · exact h.mono hQ
  · exact hQ _ _ h
  · exact h.elim

def GlPure (L : Low) : Prop := ∀ g a, L.gl g = some a → a.pure = true

/-- A run in an empty memory, put back where it stood. -/
theorem Post.frame {L : Low} {G : Gh} {s : St} {w : World} (hi : Inv G s w) {G' : Gh} {s' : St} {w' : World} (h : Post (Gh.start G.imm G.sz) St.start w G' s' w') {v v' : AV} {x : Value} (hf : Frz L s' v v') (hv : V G' v x) :
    ∃ G2, Post G s w G2 s w' ∧ V G2 v' x := by
  have hb : ∀ r b, G'.blk r = some b → w.heap.size ≤ b := fun r b hr => by
    rcases h.newBlk r b hr with h1 | ⟨_, ⟨q, h1, _⟩ | h1⟩
    · cases h1
    · cases h1
    · exact h1
  have himm : ∀ b o v, G'.imm b o = some v → b < w.heap.size → G.imm b o = some v := fun b o v h1 h2 => h.newImm b o v h1 h2 (fun r e k h => by cases h)
  have hheap : ∀ b, b < w.heap.size → w'.heap[b]? = w.heap[b]? := fun b hb => h.kept.block b hb (fun r hr => by cases hr) (fun r e k hr => by cases hr)
  let G2 : Gh := { imm := fun b o => if b < w.heap.size then G.imm b o else w'.cell? ⟨b, o, none⟩, blk := G.blk, tok := G.tok, room := G.room, sz := G.sz }
  have hle : G.le G2 := ⟨fun b o v hv => by show (if b < w.heap.size then G.imm b o else _) = _; rw [if_pos (hi.immLt hv)]; exact hv, fun _ _ h => h, fun _ _ h => h, fun _ _ h => h, rfl⟩
  have hlt : ∀ b o, b < w.heap.size → G2.imm b o = G.imm b o := fun b o hb => if_pos hb
  have hF : Frozen G' G2 s' w' := by
    refine ⟨fun b o v hv => ?_, fun r e c hr => ?_⟩
    · show (if b < w.heap.size then G.imm b o else _) = _
      split
      · rename_i hlt; exact himm b o v hv hlt
      · exact h.inv.imm b o v hv
    · obtain ⟨b, o, e1, e2, e3⟩ := h.inv.obj r _ hr rfl
      refine ⟨b, o, e1, e2, e3, fun i v hv => ?_⟩
      show (if b < w.heap.size then G.imm b i else _) = _
      rw [if_neg (by have := hb r b e1; omega)]
      exact hv
  obtain ⟨n, hn⟩ := hf
  refine ⟨G2, ⟨hle, ?_, ⟨h.kept.size, h.kept.os, h.kept.tape, h.kept.output, fun b hb _ _ => hheap b hb⟩, fun r b hr => .inl hr, fun r b e k hr => .inl ⟨r, e, k, hr⟩, Nat.le_refl _, fun _ _ h => h, fun b o v hv hb _ => by rw [hlt b o hb] at hv; exact hv⟩, (frz_ok hF n v v' hn x hv).1⟩
  refine { hi with imm := ?_, obj := ?_, tok := ?_, tokEl := ?_, blkImm := ?_, blkLt := ?_, tokLt := ?_, room := ?_ }
  · intro b o v hv
    have hv' : (if b < w.heap.size then G.imm b o else w'.cell? ⟨b, o, none⟩) = some v := hv
    split at hv'
    · rename_i hlt
      rw [cell_of_blk (hheap b hlt)]
      exact hi.imm b o v hv'
    · exact hv'
  · intro r ob hr ht
    obtain ⟨b, o, e1, e2, e3⟩ := hi.obj r ob hr ht
    exact ⟨b, o, e1, by rw [hheap b (hi.blkLt r b e1)]; exact e2, e3.mono hle⟩
  · intro r el0 hr
    obtain ⟨b, e, k, vs, el, lo, hi', e1, e2, e3, e4, e5, e6⟩ := hi.tok r el0 hr
    exact ⟨b, e, k, vs, el, lo, hi', e1, by rw [hheap b (hi.tokLt r b e k e1)]; exact e2, e3, e4, e5, fun o ho => by rw [hlt b o (hi.tokLt r b e k e1)]; exact e6 o ho⟩
  · intro r el x b e k hr hg
    rw [hheap b (hi.tokLt r b e k hg)]
    exact hi.tokEl r el x b e k hr hg
  · intro r b o hr
    rw [hlt b o (hi.blkLt r b hr)]
    exact hi.blkImm r b o hr
  · intro r b hr; exact Nat.lt_of_lt_of_le (hi.blkLt r b hr) h.kept.size
  · intro r b e k hr; exact Nat.lt_of_lt_of_le (hi.tokLt r b e k hr) h.kept.size
  · intro b K hK
    obtain ⟨⟨vs, el, lo, hh, e1, e2⟩, e5⟩ := hi.room b K hK
    exact ⟨⟨vs, el, lo, hh, by rw [hheap b (lt_of_blk e1)]; exact e1, e2⟩, e5⟩

/-- THE FRAME: where a call in an empty memory comes to an end, it comes to that end in any memory. -/
theorem PureRun.sound {P : Program} {L : Low} {call : FuncId → List AV → St → COut} (hcall : CallOK P L call) (hgl : GlPure L) {f : FuncId} {args : List AV} {v : AV} {b : Bool} (h : PureRun L call f args v b)
    {s : St} {G : Gh} {w : World} {args' : Array Value} (hi : Inv G s w) (hg : GlOK L G) (hv : VL G args args'.toList) : COutOK P f args' G s w (if b then .ret v s else .panic v s) := by
  have h0 : Inv (Gh.start G.imm G.sz) St.start w := Inv.start hi.imm
  have g0 : GlOK L (Gh.start G.imm G.sz) := ⟨fun g a ha => V.pure (G := G) (G' := (Gh.start G.imm G.sz)) (fun _ _ _ h => h) (hg.1 g a ha) (hgl g a ha), hg.2⟩
  have hF : Frozen G (Gh.start G.imm G.sz) St.start w := ⟨fun _ _ _ h => h, fun r e c hr => by simp [St.start, Tr.get] at hr⟩
  cases h with
  | ret as v v' s2 ha hc hvv =>
    obtain ⟨n, hn⟩ := ha
    have := hcall f as St.start _ w args' h0 g0 (frzL_ok hF n _ _ hn _ hv).1
    rw [hc] at this
    refine Leads.mono this (fun e w' he => ?_)
    cases e with
    | returned x =>
      obtain ⟨G', p, k⟩ := he
      exact Post.frame hi p hvv k
    | _ => exact he.elim
  | panic as v v' s2 ha hc hvv =>
    obtain ⟨n, hn⟩ := ha
    have := hcall f as St.start _ w args' h0 g0 (frzL_ok hF n _ _ hn _ hv).1
    rw [hc] at this
    refine Leads.mono this (fun e w' he => ?_)
    cases e with
    | panicked ch =>
      obtain ⟨x, G', hch, p, k⟩ := he
      obtain ⟨G2, p2, k2⟩ := Post.frame hi p hvv k
      exact ⟨x, G2, hch, p2, k2⟩
    | _ => exact he.elim

open Classical in
/-- A call as it is in an empty memory. -/
noncomputable def pureCall (L : Low) (call : FuncId → List AV → St → COut) (f : FuncId) (args : List AV) (s : St) : COut :=
  if h : ∃ p : AV × Bool, PureRun L call f args p.1 p.2 then (if h.choose.2 then .ret h.choose.1 s else .panic h.choose.1 s) else .fail "no pure run"

theorem pureCall_eq {L : Low} {call : FuncId → List AV → St → COut} {f : FuncId} {args : List AV} {v : AV} {b : Bool} (h : PureRun L call f args v b) (s : St) : pureCall L call f args s = if b then .ret v s else .panic v s := by
  unfold pureCall
  have hx : ∃ p : AV × Bool, PureRun L call f args p.1 p.2 := ⟨(v, b), h⟩
  rw [dif_pos hx]
  obtain ⟨e1, e2⟩ := hx.choose_spec.unique h
  simp only [e1, e2]

theorem pureCall_ok {P : Program} {L : Low} {call : FuncId → List AV → St → COut} (hcall : CallOK P L call) (hgl : GlPure L) : CallOK P L (pureCall L call) := by
  intro f args s G w args' hi hg hv
  by_cases h : ∃ p : AV × Bool, PureRun L call f args p.1 p.2
  · obtain ⟨⟨v, b⟩, h⟩ := h
    rw [pureCall_eq h]
    exact h.sound hcall hgl hi hg hv
  · unfold pureCall
    rw [dif_neg h]
    trivial

open Classical in
/-- A call with as much fuel as it takes. -/
noncomputable def bigCall (X : EProg) (f : FuncId) (args : List AV) (s : St) : COut :=
  if h : ∃ n, (callN X n f args s).good = true then callN X h.choose f args s else .fail "no end"

theorem bigCall_eq {X : EProg} {n : Nat} {f : FuncId} {args : List AV} {s : St} (h : (callN X n f args s).good = true) : bigCall X f args s = callN X n f args s := by
  unfold bigCall
  have hx : ∃ n, (callN X n f args s).good = true := ⟨n, h⟩
  rw [dif_pos hx]
  rcases Nat.le_total n hx.choose with hle | hle
  · exact callN_mono X _ _ hle f args s h
  · exact (callN_mono X _ _ hle f args s hx.choose_spec).symm

theorem bigCall_ok {P : Program} {L : Low} {X : EProg} (h : ProgOK P L X) : CallOK P L (bigCall X) := by
  intro f args s G w args' hi hg hv
  by_cases hx : ∃ n, (callN X n f args s).good = true
  · obtain ⟨n, hn⟩ := hx
    rw [bigCall_eq hn]
    exact callN_ok h n f args s G w args' hi hg hv
  · unfold bigCall
    rw [dif_neg hx]
    trivial
end GoE

/- What a piece of code comes to, with as much fuel as it takes: rules, one by one. No condition. -/
namespace GoE
open Go

section
variable (X : EProg)

/-- A call comes to 'Q' (or panics with 'Qp'). -/
def CallW (f : FuncId) (args : List AV) (s : St) (Q Qp : AV → St → Prop) : Prop :=
  ∃ n, match callN X n f args s with
    | .ret v s' => Q v s'
    | .panic v s' => Qp v s'
    | .fail _ => False

def WO (l : List EOp) (fr : Fr) (s : St) (Q : EExit → Fr → St → Prop) : Prop :=
  ∃ n, match execOps X.rt (callN X n) l fr s with
    | .ok e fr' s' => Q e fr' s'
    | .fail _ => False

/-- A drawn region from a place on. -/
def WD (base pos : Nat) (l : List DOp) (fr : Fr) (s : St) (log : List DLog) (Q : EExit → Fr → St → Prop) : Prop :=
  ∃ n, match execDraw X.rt (callN X n) base pos l fr s log with
    | (.ok e fr' s', log') => log'.all (DLog.ok base log') = true ∧ Q e fr' s'
    | (.fail _, _) => False

def WC (c : EC) (fr : Fr) (s : St) (Q : EExit → Fr → St → Prop) : Prop :=
  ∃ n, match exec X.rt (callN X n) n c fr s with
    | .ok e fr' s' => Q e fr' s'
    | .fail _ => False
end

/-- What comes behind the first half of a sequence, a block's code, a loop's round, a scope's code. -/
def seqK (X : EProg) (b : EC) (Q : EExit → Fr → St → Prop) : EExit → Fr → St → Prop
  | .normal, fr, s => WC X b fr s Q
  | e, fr, s => Q e fr s

def blockK (i : Nat) (Q : EExit → Fr → St → Prop) : EExit → Fr → St → Prop
  | .exit j, fr, s => if j = i then Q .normal fr s else Q (.exit j) fr s
  | e, fr, s => Q e fr s

def loopK (X : EProg) (kl : List Bool) (a : EC) (Q : EExit → Fr → St → Prop) : EExit → Fr → St → Prop
  | .normal, fr, s => WC X (.loop kl a) fr s Q
  | e, fr, s => Q e fr s

def scopeK (X : EProg) (w : EC) (Q : EExit → Fr → St → Prop) : EExit → Fr → St → Prop
  | .goto i, fr, s => match w.find i with
    | some r => WC X (.scopeAt w r) fr s Q
    | none => Q (.goto i) fr s
  | e, fr, s => Q e fr s

section
variable {X : EProg} {fr : Fr} {s : St} {Q : EExit → Fr → St → Prop} {l : List EOp} {d : Option Nat} {g : Option (Nat × Bool)} {k : EK}

theorem good_of {o : Out} {Q : EExit → Fr → St → Prop} (h : match o with | .ok e fr' s' => Q e fr' s' | .fail _ => False) : o.good = true := by
  cases o with
  | fail _ => exact h.elim
  | ok _ _ _ => rfl

theorem cgood_of {o : COut} {Q Qp : AV → St → Prop} (h : match o with | .ret v s' => Q v s' | .panic v s' => Qp v s' | .fail _ => False) : o.good = true := by
  cases o with
  | fail _ => exact h.elim
  | _ => rfl

theorem exec_up {n m : Nat} (hle : n ≤ m) {c : EC} {fr : Fr} {s : St} {Q : EExit → Fr → St → Prop} (h : match exec X.rt (callN X n) n c fr s with | .ok e fr' s' => Q e fr' s' | .fail _ => False) :
    match exec X.rt (callN X m) m c fr s with | .ok e fr' s' => Q e fr' s' | .fail _ => False := by
  rw [exec_mono X.rt (callN_mono X n m hle) n m hle c fr s (good_of h)]
  exact h

theorem ops_up {n m : Nat} (hle : n ≤ m) {l : List EOp} {fr : Fr} {s : St} {Q : EExit → Fr → St → Prop} (h : match execOps X.rt (callN X n) l fr s with | .ok e fr' s' => Q e fr' s' | .fail _ => False) :
    match execOps X.rt (callN X m) l fr s with | .ok e fr' s' => Q e fr' s' | .fail _ => False := by
  rw [execOps_mono X.rt (callN_mono X n m hle) l fr s (good_of h)]
  exact h

theorem draw_good {p : Out × List DLog} {base : Nat} {Q : EExit → Fr → St → Prop} (h : match p with | (.ok e fr' s', log') => log'.all (DLog.ok base log') = true ∧ Q e fr' s' | (.fail _, _) => False) : p.1.good = true := by
  obtain ⟨o, lg⟩ := p
  cases o with
  | fail _ => exact h.elim
  | ok _ _ _ => rfl

theorem draw_up {n m : Nat} (hle : n ≤ m) {base pos : Nat} {l : List DOp} {fr : Fr} {s : St} {log : List DLog} {Q : EExit → Fr → St → Prop}
    (h : match execDraw X.rt (callN X n) base pos l fr s log with | (.ok e fr' s', log') => log'.all (DLog.ok base log') = true ∧ Q e fr' s' | (.fail _, _) => False) :
    match execDraw X.rt (callN X m) base pos l fr s log with | (.ok e fr' s', log') => log'.all (DLog.ok base log') = true ∧ Q e fr' s' | (.fail _, _) => False := by
  rw [execDraw_mono X.rt (callN_mono X n m hle) base l pos fr s log (draw_good h)]
  exact h

theorem call_up {n m : Nat} (hle : n ≤ m) {f : FuncId} {args : List AV} {s : St} {Q Qp : AV → St → Prop} (h : match callN X n f args s with | .ret v s' => Q v s' | .panic v s' => Qp v s' | .fail _ => False) :
    match callN X m f args s with | .ret v s' => Q v s' | .panic v s' => Qp v s' | .fail _ => False := by
  rw [callN_mono X n m hle f args s (cgood_of h)]
  exact h

/-! Calls. -/

theorem CallW.mono {f : FuncId} {args : List AV} {s : St} {Q Qp R Rp : AV → St → Prop} (h : CallW X f args s Q Qp) (hQ : ∀ v s', Q v s' → R v s') (hP : ∀ v s', Qp v s' → Rp v s') : CallW X f args s R Rp := by
  obtain ⟨n, hn⟩ := h
  refine ⟨n, ?_⟩
  cases hc : callN X n f args s with
  | fail _ => rw [hc] at hn; exact hn
  | ret v s' => rw [hc] at hn; exact hQ _ _ hn
  | panic v s' => rw [hc] at hn; exact hP _ _ hn

theorem CallW.prim {f : FuncId} {args : List AV} {s : St} {Q Qp : AV → St → Prop} {p : List AV → St → COut} (hp : X.prim f = some p) (h : match p args s with | .ret v s' => Q v s' | .panic v s' => Qp v s' | .fail _ => False) : CallW X f args s Q Qp := by
  refine ⟨1, ?_⟩
  simp only [callN, hp]
  exact h

theorem CallW.ret {f : FuncId} {args : List AV} {s s' : St} {Q Qp : AV → St → Prop} {p : List AV → St → COut} {v : AV} (hp : X.prim f = some p) (h : p args s = .ret v s') (hQ : Q v s') : CallW X f args s Q Qp :=
  CallW.prim hp (by rw [h]; exact hQ)

/-! One operation. -/

theorem WO_nil (h : Q .normal fr s) : WO X [] fr s Q := ⟨0, h⟩

theorem WO_val {v : AV} (hw : wantedV g fr.tmps = some true) (hv : opV X.rt fr.tmps s k = .val v) (h : WO X l (fr.put d v) s Q) : WO X (⟨d, g, k⟩ :: l) fr s Q := by
  obtain ⟨n, hn⟩ := h
  refine ⟨n, ?_⟩
  simp only [execOps, hw, hv]
  exact hn

theorem WO_new {ob : HObj} {mk : Nat → AV} (hw : wantedV g fr.tmps = some true) (hv : opV X.rt fr.tmps s k = .new ob mk) (h : WO X l (fr.put d (mk s.next)) (s.alloc ob) Q) : WO X (⟨d, g, k⟩ :: l) fr s Q := by
  obtain ⟨n, hn⟩ := h
  refine ⟨n, ?_⟩
  simp only [execOps, hw, hv]
  exact hn

theorem WO_eff {v : AV} {s' : St} (hw : wantedV g fr.tmps = some true) (hv : opV X.rt fr.tmps s k = .eff v s') (h : WO X l (fr.put d v) s' Q) : WO X (⟨d, g, k⟩ :: l) fr s Q := by
  obtain ⟨n, hn⟩ := h
  refine ⟨n, ?_⟩
  simp only [execOps, hw, hv]
  exact hn

theorem WO_skip (hw : wantedV g fr.tmps = some false) (h : WO X l (fr.put d .undef) s Q) : WO X (⟨d, g, k⟩ :: l) fr s Q := by
  obtain ⟨n, hn⟩ := h
  refine ⟨n, ?_⟩
  simp only [execOps, hw]
  exact hn

theorem WO_panic {v : AV} (hw : wantedV g fr.tmps = some true) (hv : opV X.rt fr.tmps s k = .panic v) (h : Q (.panic v) fr s) : WO X (⟨d, g, k⟩ :: l) fr s Q := by
  refine ⟨0, ?_⟩
  simp only [execOps, hw, hv]
  exact h

theorem WO_defer {f : AV} {args : List AV} (hw : wantedV g fr.tmps = some true) (hv : opV X.rt fr.tmps s k = .defer f args) (h : WO X l ({ fr with defers := (f, args) :: fr.defers }.put d .undef) s Q) : WO X (⟨d, g, k⟩ :: l) fr s Q := by
  obtain ⟨n, hn⟩ := h
  refine ⟨n, ?_⟩
  simp only [execOps, hw, hv]
  exact hn

theorem WO_call {f : FuncId} {args : List AV} (hw : wantedV g fr.tmps = some true) (hv : opV X.rt fr.tmps s k = .call f args)
    (h : CallW X f args s (fun v s' => WO X l (fr.put d v) s' Q) (fun v s' => Q (.panic v) fr s')) : WO X (⟨d, g, k⟩ :: l) fr s Q := by
  obtain ⟨n, hn⟩ := h
  cases hc : callN X n f args s with
  | fail _ => rw [hc] at hn; exact hn.elim
  | panic v s' =>
    rw [hc] at hn
    refine ⟨n, ?_⟩
    simp only [execOps, hw, hv, hc]
    exact hn
  | ret v s' =>
    rw [hc] at hn
    obtain ⟨m, hm⟩ := hn
    have hcm : callN X (max n m) f args s = .ret v s' := by rw [callN_mono X n _ (Nat.le_max_left _ _) f args s (by rw [hc]; rfl), hc]
    refine ⟨max n m, ?_⟩
    simp only [execOps, hw, hv, hcm]
    exact ops_up (Nat.le_max_right n m) hm

/-! Operations whose answer hangs on a condition. -/

theorem WO_slS {x : EArg} {lo hi : Option EArg} {b : List UInt8} {i j : Int} (hw : wantedV g fr.tmps = some true) (hx : x.ev fr.tmps = .str b) (hl : bnd lo fr.tmps 0 = some i) (hh : bnd hi fr.tmps b.length = some j)
    (h1 : 0 ≤ i) (h2 : i ≤ j) (h3 : j ≤ b.length) {r : List UInt8} (hr : (b.drop i.toNat).take (j - i).toNat = r) (h : WO X l (fr.put d (.str r)) s Q) : WO X (⟨d, g, .slS x lo hi⟩ :: l) fr s Q := by
  subst hr
  refine WO_val hw ?_ h
  simp only [opV, hx, hl, hh, sliceStrV]
  rw [if_pos ⟨by omega, h3⟩, if_pos ⟨h1, h2⟩]

theorem WO_strAdd {x y : EArg} {a b : List UInt8} (hw : wantedV g fr.tmps = some true) (hx : x.ev fr.tmps = .str a) (hy : y.ev fr.tmps = .str b) (h1 : a.length + b.length ≤ 4611686018427387904)
    (h : WO X l (fr.put d (.str (a ++ b))) s Q) : WO X (⟨d, g, .bin .add x y⟩ :: l) fr s Q := by
  refine WO_val hw ?_ h
  simp only [opV, hx, hy, binOpV, strOpV]
  rw [if_pos h1]

theorem WO_strEq {x y : EArg} {a b : List UInt8} {t : Bool} (hw : wantedV g fr.tmps = some true) (hx : x.ev fr.tmps = .str a) (hy : y.ev fr.tmps = .str b) (ht : decide (a = b) = t)
    (h : WO X l (fr.put d (.bool t)) s Q) : WO X (⟨d, g, .bin .eql x y⟩ :: l) fr s Q := by
  subst ht
  refine WO_val hw ?_ h
  simp only [opV, hx, hy, binOpV, strOpV]

theorem WO_strNe {x y : EArg} {a b : List UInt8} {t : Bool} (hw : wantedV g fr.tmps = some true) (hx : x.ev fr.tmps = .str a) (hy : y.ev fr.tmps = .str b) (ht : decide (a = b) = t)
    (h : WO X l (fr.put d (.bool (!t))) s Q) : WO X (⟨d, g, .bin .neq x y⟩ :: l) fr s Q := by
  subst ht
  refine WO_val hw ?_ h
  simp only [opV, hx, hy, binOpV, strOpV]

theorem WO_idxStr {x y : EArg} {b : List UInt8} {k : IntKind} {i : Int} {c : UInt8} (hw : wantedV g fr.tmps = some true) (hx : x.ev fr.tmps = .str b) (hy : y.ev fr.tmps = .int k i) (h1 : 0 ≤ i) (h2 : b[i.toNat]? = some c)
    (h : WO X l (fr.put d (.int .u8 c.toNat)) s Q) : WO X (⟨d, g, .idxStr x y⟩ :: l) fr s Q := by
  refine WO_val hw ?_ h
  simp only [opV, hx, hy, lget_eq, h2]
  rw [if_pos h1]

theorem WO_idxS {x y : EArg} {sz : Nat} {tk : Tok} {es : List AV} {k : IntKind} {i : Int} {v : AV} (hw : wantedV g fr.tmps = some true) (hx : x.ev fr.tmps = .slice sz tk es) (hy : y.ev fr.tmps = .int k i) (h1 : 0 ≤ i) (h2 : es[i.toNat]? = some v)
    (h : WO X l (fr.put d (.iptr v.cells 0)) s Q) : WO X (⟨d, g, .idxS sz x y⟩ :: l) fr s Q := by
  refine WO_val hw ?_ h
  simp only [opV, hx, hy, lget_eq, h2, if_true]
  rw [if_pos h1]

theorem WO_idxS_arr {x y : EArg} {sz r off n : Nat} {co : Option Nat} {k : IntKind} {i : Int} (hw : wantedV g fr.tmps = some true) (hx : x.ev fr.tmps = .arr r off n co) (hy : y.ev fr.tmps = .int k i) (h1 : 0 ≤ i) (h2 : i < n)
    (h : WO X l (fr.put d (.ptr r (off + i.toNat * sz))) s Q) : WO X (⟨d, g, .idxS sz x y⟩ :: l) fr s Q := by
  refine WO_val hw ?_ h
  simp only [opV, hx, hy]
  rw [if_pos ⟨h1, h2⟩]

theorem WO_idxA {x y : EArg} {n sz r off : Nat} {k : IntKind} {i : Int} (hw : wantedV g fr.tmps = some true) (hx : x.ev fr.tmps = .ptr r off) (hy : y.ev fr.tmps = .int k i) (h1 : 0 ≤ i) (h2 : i < n)
    (h : WO X l (fr.put d (.ptr r (off + i.toNat * sz))) s Q) : WO X (⟨d, g, .idxA n sz x y⟩ :: l) fr s Q := by
  refine WO_val hw ?_ h
  simp only [opV, hx, hy]
  rw [if_pos ⟨h1, h2⟩]

theorem WO_slA {x : EArg} {n sz r off : Nat} {lo hi : Option EArg} {i j : Int} (hw : wantedV g fr.tmps = some true) (hx : x.ev fr.tmps = .ptr r off) (hl : bnd lo fr.tmps 0 = some i) (hh : bnd hi fr.tmps n = some j)
    (h1 : 0 ≤ i) (h2 : i ≤ j) (h3 : j ≤ n) (h : WO X l (fr.put d (.arr r (off + i.toNat * sz) (j - i).toNat (some (n - i.toNat)))) s Q) : WO X (⟨d, g, .slA n sz x lo hi⟩ :: l) fr s Q := by
  refine WO_val hw ?_ h
  simp only [opV, hx, hl, hh]
  rw [if_pos ⟨h1, h2, h3⟩]

theorem WO_store {x y : EArg} {sz r off : Nat} {e : TypeId} {c : List AV} (hw : wantedV g fr.tmps = some true) (hx : x.ev fr.tmps = .ptr r off) (hr : s.heap.get r = some (.cells e c)) (h1 : (y.ev fr.tmps).cells.length = sz) (h2 : off + sz ≤ c.length)
    (h3 : (y.ev fr.tmps).storable = true) {c' : List AV} (hc : lsetMany c off (y.ev fr.tmps).cells = c') (h : WO X l (fr.put d .undef) (s.upd r (.cells e c')) Q) : WO X (⟨d, g, .store sz x y⟩ :: l) fr s Q := by
  subst hc
  refine WO_eff hw ?_ h
  simp only [opV, hx, hr]
  rw [if_pos ⟨h1, h2, h3⟩]

theorem WO_bytesStr {x : EArg} {xs : List AV} {b : List UInt8} (hw : wantedV g fr.tmps = some true) (hx : slElems s 1 false (x.ev fr.tmps) = some xs) (hb : avBytes xs = some b) (h : WO X l (fr.put d (.str b)) s Q) : WO X (⟨d, g, .bytesStr x⟩ :: l) fr s Q := by
  refine WO_val hw ?_ h
  simp only [opV, hx, Option.bind_some, hb]

theorem WO_copyStr {x y : EArg} {r off n : Nat} {co : Option Nat} {e : TypeId} {c : List AV} {b : List UInt8} (hw : wantedV g fr.tmps = some true) (hx : x.ev fr.tmps = .arr r off n co) (hy : y.ev fr.tmps = .str b) (hr : s.heap.get r = some (.cells e c)) (h1 : off + n ≤ c.length)
    {c' : List AV} (hc : lsetMany c off (bytesAV (b.take n)) = c') (h : WO X l (fr.put d (.int .i64 (min n b.length))) (s.upd r (.cells e c')) Q) : WO X (⟨d, g, .copyStr x y⟩ :: l) fr s Q := by
  subst hc
  refine WO_eff hw ?_ h
  simp only [opV, hx, hy, hr]
  rw [if_pos h1]

/-! Code. -/

variable {a b c : EC}

theorem W_up {h0 : EC} (n : Nat) (h : match exec X.rt (callN X n) (n + 1) h0 fr s with | .ok e fr' s' => Q e fr' s' | .fail _ => False) : WC X h0 fr s Q := by
  refine ⟨n + 1, ?_⟩
  rw [exec_mono X.rt (callN_mono X n (n + 1) (by omega)) (n + 1) (n + 1) (Nat.le_refl _) h0 fr s (good_of h)]
  exact h

theorem W_skip (h : Q .normal fr s) : WC X .skip fr s Q := ⟨1, h⟩
theorem W_label {i : Nat} (h : Q .normal fr s) : WC X (.label i) fr s Q := ⟨1, h⟩
theorem W_exit {i : Nat} (h : Q (.exit i) fr s) : WC X (.exit i) fr s Q := ⟨1, h⟩
theorem W_goto {i : Nat} (h : Q (.goto i) fr s) : WC X (.goto i) fr s Q := ⟨1, h⟩
theorem W_ret (h : Q .ret fr s) : WC X .ret fr s Q := ⟨1, h⟩

theorem W_ops (h : WO X l fr s Q) : WC X (.ops l) fr s Q := by
  obtain ⟨n, hn⟩ := h
  exact W_up n hn

theorem W_seq (h : WC X a fr s (seqK X b Q)) : WC X (.seq a b) fr s Q := by
  obtain ⟨n, hn⟩ := h
  cases hc : exec X.rt (callN X n) n a fr s with
  | fail _ => rw [hc] at hn; exact hn.elim
  | ok e fr1 s1 =>
    rw [hc] at hn
    cases e with
    | normal =>
      obtain ⟨m, hm⟩ := hn
      have ha : exec X.rt (callN X (max n m)) (max n m) a fr s = .ok .normal fr1 s1 := by
        rw [exec_mono X.rt (callN_mono X n _ (Nat.le_max_left _ _)) n _ (Nat.le_max_left _ _) a fr s (by rw [hc]; rfl), hc]
      refine W_up (max n m) ?_
      simp only [exec, ha]
      exact exec_up (Nat.le_max_right n m) hm
    | exit i => refine W_up n ?_; simp only [exec, hc]; exact hn
    | goto i => refine W_up n ?_; simp only [exec, hc]; exact hn
    | ret => refine W_up n ?_; simp only [exec, hc]; exact hn
    | panic v => refine W_up n ?_; simp only [exec, hc]; exact hn

theorem W_seq_skip (h : WC X b fr s Q) : WC X (.seq .skip b) fr s Q := W_seq (W_skip h)

theorem W_cond {x : EArg} {t : Bool} (hx : x.ev fr.tmps = .bool t) (h1 : t = true → WC X a fr s Q) (h2 : t = false → WC X b fr s Q) : WC X (.cond x a b) fr s Q := by
  cases t with
  | true =>
    obtain ⟨n, hn⟩ := h1 rfl
    refine W_up n ?_
    simp only [exec, hx, if_true]
    exact hn
  | false =>
    obtain ⟨n, hn⟩ := h2 rfl
    refine W_up n ?_
    simp only [exec, hx, Bool.false_eq_true, if_false]
    exact hn

theorem W_block {i : Nat} (h : WC X a fr s (blockK i Q)) : WC X (.block i a) fr s Q := by
  obtain ⟨n, hn⟩ := h
  refine W_up n ?_
  cases hc : exec X.rt (callN X n) n a fr s with
  | fail _ => rw [hc] at hn; exact hn.elim
  | ok e fr1 s1 =>
    rw [hc] at hn
    cases e with
    | exit j =>
      simp only [exec, hc]
      simp only [blockK] at hn
      by_cases e0 : j = i
      · rw [if_pos e0] at hn ⊢; exact hn
      · rw [if_neg e0] at hn ⊢; exact hn
    | normal => simp only [exec, hc]; exact hn
    | goto i => simp only [exec, hc]; exact hn
    | ret => simp only [exec, hc]; exact hn
    | panic v => simp only [exec, hc]; exact hn

theorem W_loop {kl : List Bool} (h : WC X a (fr.kill kl) s (loopK X kl a Q)) : WC X (.loop kl a) fr s Q := by
  obtain ⟨n, hn⟩ := h
  cases hc : exec X.rt (callN X n) n a (fr.kill kl) s with
  | fail _ => rw [hc] at hn; exact hn.elim
  | ok e fr1 s1 =>
    rw [hc] at hn
    cases e with
    | normal =>
      obtain ⟨m, hm⟩ := hn
      have ha : exec X.rt (callN X (max n m)) (max n m) a (fr.kill kl) s = .ok .normal fr1 s1 := by
        rw [exec_mono X.rt (callN_mono X n _ (Nat.le_max_left _ _)) n _ (Nat.le_max_left _ _) a _ s (by rw [hc]; rfl), hc]
      refine W_up (max n m) ?_
      simp only [exec, ha]
      exact exec_up (Nat.le_max_right n m) hm
    | exit i => refine W_up n ?_; simp only [exec, hc]; exact hn
    | goto i => refine W_up n ?_; simp only [exec, hc]; exact hn
    | ret => refine W_up n ?_; simp only [exec, hc]; exact hn
    | panic v => refine W_up n ?_; simp only [exec, hc]; exact hn

theorem W_scope (h : WC X (.scopeAt a a) fr s Q) : WC X (.scope a) fr s Q := by
  obtain ⟨n, hn⟩ := h
  exact W_up n hn

theorem W_scopeAt {w : EC} (h : WC X a fr s (scopeK X w Q)) : WC X (.scopeAt w a) fr s Q := by
  obtain ⟨n, hn⟩ := h
  cases hc : exec X.rt (callN X n) n a fr s with
  | fail _ => rw [hc] at hn; exact hn.elim
  | ok e fr1 s1 =>
    rw [hc] at hn
    cases e with
    | goto i =>
      simp only [scopeK] at hn
      cases hf : w.find i with
      | none => rw [hf] at hn; refine W_up n ?_; simp only [exec, hc, hf]; exact hn
      | some r =>
        rw [hf] at hn
        obtain ⟨m, hm⟩ := hn
        have ha : exec X.rt (callN X (max n m)) (max n m) a fr s = .ok (.goto i) fr1 s1 := by
          rw [exec_mono X.rt (callN_mono X n _ (Nat.le_max_left _ _)) n _ (Nat.le_max_left _ _) a _ s (by rw [hc]; rfl), hc]
        refine W_up (max n m) ?_
        simp only [exec, ha, hf]
        exact exec_up (Nat.le_max_right n m) hm
    | normal => refine W_up n ?_; simp only [exec, hc]; exact hn
    | exit i => refine W_up n ?_; simp only [exec, hc]; exact hn
    | ret => refine W_up n ?_; simp only [exec, hc]; exact hn
    | panic v => refine W_up n ?_; simp only [exec, hc]; exact hn

theorem k_seq (h : WC X b fr s Q) : seqK X b Q .normal fr s := h
theorem k_seq_ret (h : Q .ret fr s) : seqK X b Q .ret fr s := h
theorem k_seq_exit {i : Nat} (h : Q (.exit i) fr s) : seqK X b Q (.exit i) fr s := h
theorem k_seq_goto {i : Nat} (h : Q (.goto i) fr s) : seqK X b Q (.goto i) fr s := h
theorem k_seq_panic {v : AV} (h : Q (.panic v) fr s) : seqK X b Q (.panic v) fr s := h
theorem k_block (i : Nat) (h : Q .normal fr s) : blockK i Q .normal fr s := h
theorem k_block_ret {i : Nat} (h : Q .ret fr s) : blockK i Q .ret fr s := h
theorem k_block_exit {i : Nat} (h : Q .normal fr s) : blockK i Q (.exit i) fr s := by simp only [blockK, if_true]; exact h
theorem k_block_other {i j : Nat} (hij : j ≠ i) (h : Q (.exit j) fr s) : blockK i Q (.exit j) fr s := by simp only [blockK, if_neg hij]; exact h
theorem k_block_goto {i j : Nat} (h : Q (.goto j) fr s) : blockK i Q (.goto j) fr s := h
theorem k_block_panic {i : Nat} {v : AV} (h : Q (.panic v) fr s) : blockK i Q (.panic v) fr s := h
theorem k_loop {kl : List Bool} (h : WC X (.loop kl a) fr s Q) : loopK X kl a Q .normal fr s := h
theorem k_loop_ret {kl : List Bool} (h : Q .ret fr s) : loopK X kl a Q .ret fr s := h
theorem k_loop_exit {kl : List Bool} {i : Nat} (h : Q (.exit i) fr s) : loopK X kl a Q (.exit i) fr s := h
theorem k_loop_panic {kl : List Bool} {v : AV} (h : Q (.panic v) fr s) : loopK X kl a Q (.panic v) fr s := h

theorem W_mono {R : EExit → Fr → St → Prop} (h : WC X a fr s Q) (hQ : ∀ e fr s, Q e fr s → R e fr s) : WC X a fr s R := by
  obtain ⟨n, hn⟩ := h
  refine ⟨n, ?_⟩
  cases hc : exec X.rt (callN X n) n a fr s with
  | fail _ => rw [hc] at hn; exact hn
  | ok e fr1 s1 => rw [hc] at hn; exact hQ _ _ _ hn

/-! Drawn regions. -/

theorem W_draw {ds : List DOp} (h : WD X s.next 0 ds fr { s with next := s.next + ds.length } [] Q) : WC X (.draw ds) fr s Q := by
  obtain ⟨n, hn⟩ := h
  refine W_up n ?_
  simp only [exec, runDraw]
  cases hc : execDraw X.rt (callN X n) s.next 0 ds fr { s with next := s.next + ds.length } [] with
  | mk o lg =>
    rw [hc] at hn
    cases o with
    | fail _ => exact hn.elim
    | ok e fr1 s1 =>
      simp only at hn ⊢
      rw [if_pos hn.1]
      exact hn.2

variable {base pos : Nat} {log : List DLog} {ds : List DOp} {pk : Bool} {jk wl : List Nat}

theorem WD_nil (hlog : log.all (DLog.ok base log) = true) (h : Q .normal fr s) : WD X base pos [] fr s log Q := ⟨0, hlog, h⟩

def isLoad : EK → Bool
  | .load .. => true
  | _ => false

theorem WD_val {v : AV} (hw : wantedV g fr.tmps = some true) (hk : isLoad k = false) (hv : opV X.rt fr.tmps s k = .val v) (h : WD X base (pos + 1) ds (fr.put d v) s log Q) : WD X base pos (⟨⟨d, g, k⟩, pk, jk, wl⟩ :: ds) fr s log Q := by
  obtain ⟨n, hn⟩ := h
  refine ⟨n, ?_⟩
  simp only [execDraw, hw, hv]
  cases k <;> first | exact hn | (simp [isLoad] at hk)

theorem WD_load {v : AV} {sz : Nat} {agg : Bool} {x : EArg} (hw : wantedV g fr.tmps = some true) (hv : opV X.rt fr.tmps s (.load sz agg x) = .val v) (h : WD X base (pos + 1) ds (fr.put d v) s (.l (x.ev fr.tmps) sz wl :: log) Q) :
    WD X base pos (⟨⟨d, g, .load sz agg x⟩, pk, jk, wl⟩ :: ds) fr s log Q := by
  obtain ⟨n, hn⟩ := h
  refine ⟨n, ?_⟩
  simp only [execDraw, hw, hv]
  exact hn

theorem WD_skip (hw : wantedV g fr.tmps = some false) (h : WD X base (pos + 1) ds (fr.put d .undef) s log Q) : WD X base pos (⟨⟨d, g, k⟩, pk, jk, wl⟩ :: ds) fr s log Q := by
  obtain ⟨n, hn⟩ := h
  refine ⟨n, ?_⟩
  simp only [execDraw, hw]
  exact hn

theorem WD_newA {ob : HObj} {mk : Nat → AV} (hw : wantedV g fr.tmps = some true) (hk : k.cls = .a) (hv : opV X.rt fr.tmps s k = .new ob mk)
    (h : WD X base (pos + 1) ds (fr.put d (mk (base + pos))) { s with heap := s.heap.set (base + pos) (some ob) } log Q) : WD X base pos (⟨⟨d, g, k⟩, pk, jk, wl⟩ :: ds) fr s log Q := by
  obtain ⟨n, hn⟩ := h
  refine ⟨n, ?_⟩
  simp only [execDraw, hw, hv, hk]
  exact hn

theorem WD_new {ob : HObj} {mk : Nat → AV} (hw : wantedV g fr.tmps = some true) (hk : k.cls = .w) (hv : opV X.rt fr.tmps s k = .new ob mk)
    (h : WD X base (pos + 1) ds (fr.put d (mk s.next)) (s.alloc ob) (.w pos s (s.alloc ob) :: log) Q) : WD X base pos (⟨⟨d, g, k⟩, pk, jk, wl⟩ :: ds) fr s log Q := by
  obtain ⟨n, hn⟩ := h
  refine ⟨n, ?_⟩
  simp only [execDraw, hw, hv, hk]
  exact hn

theorem WD_eff {v : AV} {s' : St} (hw : wantedV g fr.tmps = some true) (hk : k.cls = .w) (hv : opV X.rt fr.tmps s k = .eff v s')
    (h : WD X base (pos + 1) ds (fr.put d v) s' (.w pos s s' :: log) Q) : WD X base pos (⟨⟨d, g, k⟩, pk, jk, wl⟩ :: ds) fr s log Q := by
  obtain ⟨n, hn⟩ := h
  refine ⟨n, ?_⟩
  simp only [execDraw, hw, hv, hk]
  exact hn

theorem WD_panic {v : AV} (hw : wantedV g fr.tmps = some true) (hk : k.cls = .w) (hv : opV X.rt fr.tmps s k = .panic v) (hp : pk = true) (hlog : log.all (DLog.ok base log) = true)
    (h : Q (.panic v) { fr with tmps := jk.foldl (fun t i => lset t i .junk) fr.tmps } s) : WD X base pos (⟨⟨d, g, k⟩, pk, jk, wl⟩ :: ds) fr s log Q := by
  subst hp
  refine ⟨0, ?_⟩
  simp only [execDraw, hw, hv, hk, and_self, if_true]
  exact ⟨hlog, h⟩

theorem WD_call {f : FuncId} {args : List AV} (hw : wantedV g fr.tmps = some true) (hk : k.cls = .w) (hv : opV X.rt fr.tmps s k = .call f args)
    (h : CallW X f args s (fun v s' => WD X base (pos + 1) ds (fr.put d v) s' (.w pos s s' :: log) Q)
      (fun v s' => pk = true ∧ log.all (DLog.ok base log) = true ∧ Q (.panic v) { fr with tmps := jk.foldl (fun t i => lset t i .junk) fr.tmps } s')) : WD X base pos (⟨⟨d, g, k⟩, pk, jk, wl⟩ :: ds) fr s log Q := by
  obtain ⟨n, hn⟩ := h
  cases hc : callN X n f args s with
  | fail _ => rw [hc] at hn; exact hn.elim
  | panic v s' =>
    rw [hc] at hn
    obtain ⟨h1, h2, h3⟩ := hn
    subst h1
    refine ⟨n, ?_⟩
    simp only [execDraw, hw, hv, hk, hc, if_true]
    exact ⟨h2, h3⟩
  | ret v s' =>
    rw [hc] at hn
    obtain ⟨m, hm⟩ := hn
    have hcm : callN X (max n m) f args s = .ret v s' := by rw [callN_mono X n _ (Nat.le_max_left _ _) f args s (by rw [hc]; rfl), hc]
    refine ⟨max n m, ?_⟩
    simp only [execDraw, hw, hv, hk, hcm]
    exact draw_up (Nat.le_max_right n m) hm

/-! A function without deferred calls. -/

/-- A function's end. -/
def fnK (fn : EFn) (Q Qp : AV → St → Prop) : EExit → Fr → St → Prop := fun e fr s => fr.defers = [] ∧ match e with
  | .normal | .ret => (match resultsV s fn fr.tmps with | some v => Q v s | none => False)
  | .panic v => Qp v s
  | _ => False

theorem fnK_ret {fn : EFn} {Q Qp : AV → St → Prop} {v : AV} (hd : fr.defers = []) (hr : resultsV s fn fr.tmps = some v) (h : Q v s) : fnK fn Q Qp .ret fr s := ⟨hd, by simp only [hr]; exact h⟩
theorem fnK_normal {fn : EFn} {Q Qp : AV → St → Prop} {v : AV} (hd : fr.defers = []) (hr : resultsV s fn fr.tmps = some v) (h : Q v s) : fnK fn Q Qp .normal fr s := ⟨hd, by simp only [hr]; exact h⟩
theorem fnK_panic {fn : EFn} {Q Qp : AV → St → Prop} {v : AV} (hd : fr.defers = []) (h : Qp v s) : fnK fn Q Qp (.panic v) fr s := ⟨hd, h⟩

theorem CallW_fn {f : FuncId} {args : List AV} {s : St} {Q Qp : AV → St → Prop} {fn : EFn} (hp : X.prim f = none) (hf : X.fn f = some fn)
    (h : WC X fn.body (fn.enter args .off) s (fnK fn Q Qp)) : CallW X f args s Q Qp := by
  obtain ⟨n, hn⟩ := h
  refine ⟨n + 1, ?_⟩
  simp only [callN, hp, hf, runFn]
  cases hc : exec X.rt (callN X n) n fn.body (fn.enter args .off) s with
  | fail _ => rw [hc] at hn; exact hn.elim
  | ok e fr1 s1 =>
    rw [hc] at hn
    obtain ⟨hd, hn⟩ := hn
    cases e with
    | normal =>
      simp only [hd, leave]
      simp only at hn
      cases hr : resultsV s1 fn fr1.tmps with
      | none => rw [hr] at hn; exact hn.elim
      | some v => rw [hr] at hn; exact hn
    | ret =>
      simp only [hd, leave]
      simp only at hn
      cases hr : resultsV s1 fn fr1.tmps with
      | none => rw [hr] at hn; exact hn.elim
      | some v => rw [hr] at hn; exact hn
    | panic v => simp only [hd, leave]; exact hn
    | exit i => exact hn.elim
    | goto i => exact hn.elim
end
end GoE

/- Which slots a loop's round begins without: a guess (any answer is sound). No condition. -/
namespace GoE
open Go

def EArg.slots : EArg → List (Nat × Bool)
  | .t i => [(i, false)]
  | .k _ => []

def EOp.slots (o : EOp) : List (Nat × Bool) :=
  (match o.guard with | some (t, _) => [(t, false)] | none => []) ++ (namesOf.argsOf o.k).map (fun i => (i, false)) ++ (match o.dst with | some d => [(d, true)] | none => [])

/-- The slots that code names, as they come; 'true': it is written. -/
def EC.slots : EC → List (Nat × Bool)
  | .ops l => l.flatMap EOp.slots
  | .draw l => l.flatMap fun d => d.op.slots
  | .seq a b => a.slots ++ b.slots
  | .cond c a b => c.slots ++ a.slots ++ b.slots
  | .block _ b => b.slots
  | .loop _ b => b.slots
  | .scope b => b.slots
  | .scopeAt _ b => b.slots
  | _ => []

def firstUse (l : List (Nat × Bool)) (t : Nat) : Bool :=
  match l.find? fun p => p.1 == t with
  | some p => !p.2
  | none => false

/-- What comes behind the loop of this body (what loops round it may come again). -/
def EC.behind (target : List (Nat × Bool)) : EC → List (Nat × Bool) → Option (List (Nat × Bool))
  | .seq a b, after => match a.behind target (b.slots ++ after) with
    | some r => some r
    | none => b.behind target after
  | .cond _ a b, after => match a.behind target after with
    | some r => some r
    | none => b.behind target after
  | .block _ b, after => b.behind target after
  | .loop _ b, after => if b.slots == target then some after else b.behind target (b.slots ++ after)
  | .scope b, after => b.behind target (b.slots ++ after)
  | _, _ => none

def ERes.slot : ERes → Nat
  | .tmp t => t
  | .cell a _ _ => a

def killsOf (whole : EC) (rs : List ERes) (body : EC) : List Bool :=
  let b := body.slots
  let after := (whole.behind b (rs.map fun r => (r.slot, false))).getD (whole.slots.map fun p => (p.1, false))
  (List.range (whole.slots.foldl (fun n p => max n (p.1 + 1)) 0)).map fun t => !firstUse b t && !firstUse after t
end GoE

/- A function that was walked once is the evaluator's own from then on. No condition. -/
namespace GoE
open Go

theorem Frz.str {L : Low} {s : St} (l : List UInt8) : Frz L s (.str l) (.str l) := ⟨1, rfl⟩
theorem Frz.int {L : Low} {s : St} (k : IntKind) (n : Int) : Frz L s (.int k n) (.int k n) := ⟨1, rfl⟩
theorem Frz.bool {L : Low} {s : St} (b : Bool) : Frz L s (.bool b) (.bool b) := ⟨1, rfl⟩
theorem Frz.nilslice {L : Low} {s : St} : Frz L s .nilslice .nilslice := ⟨1, rfl⟩
theorem FrzL.nil {L : Low} {s : St} : FrzL L s [] [] := ⟨1, rfl⟩
theorem FrzL.cons {L : Low} {s : St} {a b : AV} {l m : List AV} (h : Frz L s a b) (k : FrzL L s l m) : FrzL L s (a :: l) (b :: m) := by
  obtain ⟨n, hn⟩ := h
  obtain ⟨p, hp⟩ := k
  refine ⟨max n p + 1, ?_⟩
  simp only [frzL, frz_le (Nat.le_max_left n p) hn, frzL_le (Nat.le_max_right n p) hp]
theorem FrzL.refl {L : Low} {s : St} : ∀ {l : List AV}, (∀ a, a ∈ l → Frz L s a a) → FrzL L s l l
  | [], _ => FrzL.nil
  | a :: l, h => FrzL.cons (h a (by simp)) (FrzL.refl (fun b hb => h b (by simp [hb])))
theorem Frz.tuple {L : Low} {s : St} {l m : List AV} (h : FrzL L s l m) : Frz L s (.tuple l) (.tuple m) := by
  obtain ⟨n, hn⟩ := h
  exact ⟨n + 1, by simp [frz, hn]⟩
theorem Frz.agg {L : Low} {s : St} {l m : List AV} (h : FrzL L s l m) : Frz L s (.agg l) (.agg m) := by
  obtain ⟨n, hn⟩ := h
  exact ⟨n + 1, by simp [frz, hn]⟩
theorem Frz.slice {L : Low} {s : St} {z : Nat} {t : Tok} {l m : List AV} (h : FrzL L s l m) (hz : ∀ x, x ∈ m → x.cells.length = z) : Frz L s (.slice z t l) (.slice z .closed m) := by
  obtain ⟨n, hn⟩ := h
  refine ⟨n + 1, ?_⟩
  simp only [frz, hn]
  rw [if_pos (List.all_eq_true.2 fun x hx => by simpa using hz x hx)]

/-- What a function gives, by its arguments alone. -/
def pureOf (F : List AV → Option AV) : List AV → St → COut := fun args s => match F args with
  | some v => .ret v s
  | none => .fail "pure"

theorem pureOf_ok {P : Program} {L : Low} {X : EProg} (hX : ProgOK P L X) (hgl : GlPure L) {f : FuncId} {F : List AV → Option AV}
    (h : ∀ args v, F args = some v → ∃ as, FrzL L St.start args as ∧ CallW X f as St.start (fun u s' => Frz L s' u v) (fun _ _ => False)) : PrimOK P L f (pureOf F) := by
  intro args s G w args' hi hg hv
  unfold pureOf
  cases hF : F args with
  | none => trivial
  | some v =>
    obtain ⟨as, ha, n, hn⟩ := h args v hF
    cases hc : callN X n f as St.start with
    | fail _ => rw [hc] at hn; exact hn.elim
    | panic _ _ => rw [hc] at hn; exact hn.elim
    | ret u s' =>
      rw [hc] at hn
      have hb : bigCall X f as St.start = .ret u s' := by rw [bigCall_eq (n := n) (by rw [hc]; rfl), hc]
      exact (PureRun.ret (call := bigCall X) as u v s' ha hb hn).sound (bigCall_ok hX) hgl hi hg hv

theorem CallW.pure {X : EProg} {f : FuncId} {args : List AV} {s : St} {Q Qp : AV → St → Prop} {F : List AV → Option AV} {v : AV} (hp : X.prim f = some (pureOf F)) (hF : F args = some v) (h : Q v s) : CallW X f args s Q Qp :=
  CallW.ret hp (by unfold pureOf; rw [hF]) h
end GoE
