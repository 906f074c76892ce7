import Derived.Test.YtnmfnbhgolakkaaGreatDoorEd
import Derived.Laws.Externs
import Derived.Lib.Bytealg
import Derived.Lib.Index
import Derived.Shelf.Strings.Search2
/- Functions that the model answers by itself, and the library's search for a text in a text, as the evaluator's own. No condition. -/
namespace GoE
open Go

/-- Where the first 'c' stands; -1: nowhere. -/
def ixByte : List UInt8 → Nat → Nat → Int
  | [], _, _ => -1
  | b :: l, c, i => if b.toNat = c then i else ixByte l c (i + 1)

def cntByte : List UInt8 → Nat → Nat → Nat
  | [], _, n => n
  | b :: l, c, n => cntByte l c (if b.toNat = c then n + 1 else n)

def ixText : List UInt8 → List UInt8 → Nat → Int
  | [], sub, i => if sub.isEmpty then i else -1
  | b :: l, sub, i => if sub.isPrefixOf (b :: l) then i else ixText l sub (i + 1)

theorem ixByte_eq (c : UInt8) : ∀ (l : List UInt8) (i : Nat), ixByte l c.toNat i = if Lib.indexByte l c = -1 then -1 else Lib.indexByte l c + i
  | [], i => by simp [ixByte, Lib.indexByte]
  | b :: l, i => by
    have hb : (b.toNat = c.toNat) ↔ b = c := by
      constructor
      · intro h; exact UInt8.toNat_inj.1 h
      · intro h; rw [h]
    have ge := Lib.indexByte_ge l c
    simp only [ixByte, Lib.indexByte, hb, beq_iff_eq]
    by_cases h : b = c
    · simp [h]
    · simp only [h, if_false]
      rw [ixByte_eq c l (i + 1)]
      by_cases h2 : Lib.indexByte l c = -1
      · simp [h2]
      · rw [if_neg h2, if_neg h2, if_neg (by omega)]
        omega

theorem ixByte_zero (c : UInt8) (l : List UInt8) : ixByte l c.toNat 0 = Lib.indexByte l c := by
  rw [ixByte_eq]
  split
  · rename_i h; exact h.symm
  · simp

theorem cntByte_eq (c : UInt8) : ∀ (l : List UInt8) (n : Nat), cntByte l c.toNat n = n + l.count c
  | [], n => by simp [cntByte]
  | b :: l, n => by
    have hb : (b.toNat = c.toNat) ↔ b = c := by
      constructor
      · intro h; exact UInt8.toNat_inj.1 h
      · intro h; rw [h]
    simp only [cntByte, hb]
    rw [cntByte_eq c l, List.count_cons]
    by_cases h : b = c
    · simp [h]; omega
    · simp [h]

theorem ixText_eq (sub : List UInt8) : ∀ (l : List UInt8) (i : Nat), ixText l sub i = if Lib.index l sub = -1 then -1 else Lib.index l sub + i
  | [], i => by
    simp only [ixText, Lib.index]
    split <;> simp
  | b :: l, i => by
    have ge := Lib.index_ge l sub
    simp only [ixText, Lib.index, beq_iff_eq]
    by_cases h : sub.isPrefixOf (b :: l) = true
    · simp [h]
    · simp only [h, Bool.false_eq_true, if_false]
      rw [ixText_eq sub l (i + 1)]
      by_cases h2 : Lib.index l sub = -1
      · simp [h2]
      · rw [if_neg h2, if_neg h2, if_neg (by omega)]
        omega

theorem ixText_zero (sub l : List UInt8) : ixText l sub 0 = Lib.index l sub := by
  rw [ixText_eq]
  split
  · rename_i h; exact h.symm
  · simp

section
variable {P : Program} {L : Low}

theorem VL.one {G : Gh} {a : AV} {args : Array Value} (h : VL G [a] args.toList) : ∃ v, args = #[v] ∧ V G a v := by
  obtain ⟨v, ws, h1, h2, h3⟩ := h.cons_inv
  have := h3.nil_inv
  subst this
  exact ⟨v, Array.ext' (by simpa using h1), h2⟩
theorem VL.two {G : Gh} {a b : AV} {args : Array Value} (h : VL G [a, b] args.toList) : ∃ u v, args = #[u, v] ∧ V G a u ∧ V G b v := by
  obtain ⟨u, ws, h1, h2, h3⟩ := h.cons_inv
  obtain ⟨v, us, rfl, h4, h5⟩ := h3.cons_inv
  have := h5.nil_inv
  subst this
  exact ⟨u, v, Array.ext' (by simpa using h1), h2, h4⟩

/-- A function that the model answers by itself: what its entry gives. -/
theorem prim_extern {f : FuncId} {fn : Func} {e : Array Value → Sem Value} (hf : P.funcs[f]? = some fn) (hname : (fn.name == "runtime.NumGoroutine") = false)
    (hb : fn.body.isNone = true) (hn : Extern.findNext fn = none) (he : Extern.find fn = some e) {p : List AV → St → COut}
    (hp : ∀ (args : List AV) (s : St) (G : Gh) (w : World) (args' : Array Value), VL G args args'.toList → ∀ o, p args s = o → match o with
      | .ret v s' => s' = s ∧ ∃ v', (e args').run P w = .ok v' w ∧ V G v v'
      | .panic _ _ => False
      | .fail _ => True) : PrimOK P L f p := by
  intro args s G w args' hi _ hv
  have h := hp args s G w args' hv _ rfl
  cases hc : p args s with
  | fail _ => trivial
  | panic _ _ => rw [hc] at h; exact h.elim
  | ret v s' =>
    rw [hc] at h
    obtain ⟨rfl, v', h1, h2⟩ := h
    show Leads P ((callFunc f args').run P w) (RetPost G s' w v s')
    rw [run_callFunc_extern hf hname hb hn he, h1]
    exact ⟨G, Post.refl hi, h2⟩

def pNoEscape : List AV → St → COut := fun args s => match args with
  | [x] => .ret x s
  | _ => .fail "NoEscape"

theorem pNoEscape_ok {f : FuncId} {fn : Func} (hf : P.funcs[f]? = some fn) (hname : (fn.name == "runtime.NumGoroutine") = false)
    (hb : fn.body.isNone = true) (hn : Extern.findNext fn = none) (he : Extern.find fn = some Extern.AbiNoEscape.same) : PrimOK P L f pNoEscape := by
  refine prim_extern hf hname hb hn he (fun args s G w args' hv o ho => ?_)
  unfold pNoEscape at ho
  split at ho <;> subst ho
  · obtain ⟨v, rfl, h⟩ := hv.one
    exact ⟨rfl, v, rfl, h⟩
  · trivial

def pIndexByteString : List AV → St → COut := fun args s => match args with
  | [.str l, .int .u8 c] => if 0 ≤ c ∧ c < 256 then .ret (.int .i64 (ixByte l c.toNat 0)) s else .fail "IndexByteString"
  | _ => .fail "IndexByteString"

theorem u8_toNat {c : Int} (h : 0 ≤ c ∧ c < 256) : c.toNat.toUInt8.toNat = c.toNat := by
  simp
  omega

theorem pIndexByteString_ok {f : FuncId} {fn : Func} (hf : P.funcs[f]? = some fn) (hname : (fn.name == "runtime.NumGoroutine") = false)
    (hb : fn.body.isNone = true) (hn : Extern.findNext fn = none) (he : Extern.find fn = some Extern.BytealgIndexByte.indexByte) : PrimOK P L f pIndexByteString := by
  refine prim_extern hf hname hb hn he (fun args s G w args' hv o ho => ?_)
  unfold pIndexByteString at ho
  split at ho
  · rename_i l c
    obtain ⟨u, v, rfl, h1, h2⟩ := hv.two
    cases h1
    cases h2
    rename_i sb
    split at ho <;> subst ho
    · rename_i hs hc
      refine ⟨rfl, _, Lib.run_indexByteString sb c w, ?_⟩
      rw [← ixByte_zero, u8_toNat hc]
      exact .int _ _
    · trivial
  · subst ho; trivial

def pCountString : List AV → St → COut := fun args s => match args with
  | [.str l, .int .u8 c] => if 0 ≤ c ∧ c < 256 then .ret (.int .i64 (cntByte l c.toNat 0)) s else .fail "CountString"
  | _ => .fail "CountString"

theorem pCountString_ok {f : FuncId} {fn : Func} (hf : P.funcs[f]? = some fn) (hname : (fn.name == "runtime.NumGoroutine") = false)
    (hb : fn.body.isNone = true) (hn : Extern.findNext fn = none) (he : Extern.find fn = some Extern.BytealgCount.count) : PrimOK P L f pCountString := by
  refine prim_extern hf hname hb hn he (fun args s G w args' hv o ho => ?_)
  unfold pCountString at ho
  split at ho
  · rename_i l c
    obtain ⟨u, v, rfl, h1, h2⟩ := hv.two
    cases h1
    cases h2
    rename_i sb
    split at ho <;> subst ho
    · rename_i hs hc
      refine ⟨rfl, _, Lib.run_countString sb c w, ?_⟩
      have := cntByte_eq c.toNat.toUInt8 sb.data.toList 0
      rw [u8_toNat hc, Nat.zero_add] at this
      rw [this]
      exact .int _ _
    · trivial
  · subst ho; trivial

/-- internal/stringslite.Index. -/
def pIndex : List AV → St → COut := fun args s => match args with
  | [.str a, .str b] => if a.length < 4294967281 then .ret (.int .i64 (ixText a b 0)) s else .fail "Index"
  | _ => .fail "Index"

theorem pIndex_ok {f : FuncId} {fn : Func} (hf : P.funcs[f]? = some fn) (hname : (fn.name == "runtime.NumGoroutine") = false) (hb : fn.body.isSome = true) {g : Nat} (hg : g ∈ L.ints)
    (hc : ∀ (s sub : ByteArray) (m : Int) (w : World), s.size < 4294967281 → w.cell? ⟨g, 0, none⟩ = some (.int .i64 m) →
      Calls P f #[.string s, .string sub] w fun e w' => e = .returned (.int .i64 (Lib.index s.data.toList sub.data.toList)) ∧ w' = w) : PrimOK P L f pIndex := by
  intro args s G w args' hi hgl hv
  unfold pIndex
  split
  · obtain ⟨u, v, rfl, h1, h2⟩ := hv.two
    cases h1
    cases h2
    rename_i sb sub
    split
    · rename_i hl
      obtain ⟨m, hm⟩ := hgl.2.1 g hg
      show Leads P ((callFunc f #[.string sb, .string sub]).run P w) _
      have hent : (callFunc f #[.string sb, .string sub]).run P w = .ok (.enter f #[.string sb, .string sub]) w := by
        have hne : fn.name ≠ "runtime.NumGoroutine" := by simpa using hname
        have hbn : fn.body ≠ none := by intro h0; rw [h0] at hb; cases hb
        simp [callFunc, hf, hne, hbn]
      rw [hent]
      refine (hc sb sub m w (by simpa using hl) (hi.imm _ _ _ hm)).mono (fun e w' ⟨h1, h2⟩ => ?_)
      subst h1
      subst h2
      exact ⟨G, Post.refl hi, by rw [ixText_zero]; exact .int _ _⟩
    · trivial
  · trivial
end
end GoE
