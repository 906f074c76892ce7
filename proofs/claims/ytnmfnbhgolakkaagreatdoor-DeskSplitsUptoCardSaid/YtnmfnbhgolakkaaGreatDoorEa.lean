import GoSem.Step
import Derived.Below
import Derived.Tactics
import Derived.Orders
import Derived.Laws.Panics
import Derived.Laws.World
import Derived.Laws.IdiomCopy
import Derived.Laws.Cells
import Derived.Laws.NewBlocks
import Derived.Laws.BytesString
import Derived.Laws.Entries
import Derived.Laws.Concat
/- The evaluator's values and memory: abstract values (no addresses, no capacities), an abstract heap, and the small list functions that the evaluator uses. No condition. -/
namespace GoE
open Go

inductive Tok where
  | closed | exact | id (n : Nat)
  deriving DecidableEq, Inhabited

inductive AV where
  | junk
  | undef
  | bool (b : Bool)
  | int (k : IntKind) (n : Int)
  | str (s : List UInt8)
  | nilptr
  | ptr (r off : Nat)
  | iptr (cells : List AV) (off : Nat)
  | tptr (r : Nat) (cells : List AV)
  | nilslice
  | slice (sz : Nat) (t : Tok) (es : List AV)
  | arr (r off len : Nat) (cap : Option Nat)
  | map (r : Nat)
  | nilmap
  | func (fn : Fn) (first captured : List AV)
  | nilFunc
  | iface (t : TypeId) (v : AV)
  | nilIface
  | agg (cells : List AV)
  | tuple (vs : List AV)
  deriving Inhabited

mutual
def AV.beq : AV → AV → Bool
  | .junk, .junk => true
  | .undef, .undef => true
  | .bool a, .bool b => a == b
  | .int k a, .int l b => decide (k = l) && decide (a = b)
  | .str a, .str b => decide (a = b)
  | .nilptr, .nilptr => true
  | .ptr a b, .ptr c d => decide (a = c) && decide (b = d)
  | .iptr a b, .iptr c d => AV.beqL a c && decide (b = d)
  | .tptr a b, .tptr c d => decide (a = c) && AV.beqL b d
  | .nilslice, .nilslice => true
  | .slice z t a, .slice y u b => decide (z = y) && decide (t = u) && AV.beqL a b
  | .arr a b c d, .arr e f g h => decide (a = e) && decide (b = f) && decide (c = g) && decide (d = h)
  | .map a, .map b => decide (a = b)
  | .nilmap, .nilmap => true
  | .func f a b, .func g c d => decide (f = g) && AV.beqL a c && AV.beqL b d
  | .nilFunc, .nilFunc => true
  | .iface t a, .iface u b => decide (t = u) && AV.beq a b
  | .nilIface, .nilIface => true
  | .agg a, .agg b => AV.beqL a b
  | .tuple a, .tuple b => AV.beqL a b
  | _, _ => false
def AV.beqL : List AV → List AV → Bool
  | [], [] => true
  | a :: x, b :: y => AV.beq a b && AV.beqL x y
  | _, _ => false
end

mutual
theorem AV.beq_eq : ∀ a b : AV, AV.beq a b = true → a = b := by
  intro a b h
  cases a <;> cases b <;> simp only [AV.beq, Bool.and_eq_true, decide_eq_true_eq, beq_iff_eq] at h <;> first
    | rfl
    | (exact Bool.noConfusion h)
    | (subst h; rfl)
    | (rw [AV.beqL_eq _ _ h])
    | (obtain ⟨h1, h2⟩ := h; subst h1; first | (subst h2; rfl) | rw [AV.beq_eq _ _ h2] | rw [AV.beqL_eq _ _ h2])
    | (obtain ⟨h1, h2⟩ := h; subst h2; rw [AV.beqL_eq _ _ h1])
    | (obtain ⟨⟨h1, h2⟩, h3⟩ := h; subst h1; first | (subst h2; rw [AV.beqL_eq _ _ h3]) | rw [AV.beqL_eq _ _ h2, AV.beqL_eq _ _ h3])
    | (obtain ⟨⟨⟨h1, h2⟩, h3⟩, h4⟩ := h; subst h1; subst h2; subst h3; subst h4; rfl)
theorem AV.beqL_eq : ∀ a b : List AV, AV.beqL a b = true → a = b := by
  intro a b h
  cases a <;> cases b <;> simp only [AV.beqL, Bool.and_eq_true] at h <;> first
    | rfl
    | (exact Bool.noConfusion h)
    | rw [AV.beq_eq _ _ h.1, AV.beqL_eq _ _ h.2]
end

mutual
theorem AV.beq_refl : ∀ a : AV, AV.beq a a = true := by
  intro a
  cases a <;> simp [AV.beq, AV.beqL_refl, AV.beq_refl]
theorem AV.beqL_refl : ∀ a : List AV, AV.beqL a a = true := by
  intro a
  cases a <;> simp [AV.beqL, AV.beqL_refl, AV.beq_refl]
end

def AV.cells : AV → List AV
  | .agg cs => cs
  | v => [v]

/-- May the value lie in memory? -/
def AV.storable : AV → Bool
  | .junk | .undef | .tuple _ => false
  | _ => true

structure MEnt where
  key : AV
  val : AV
  deriving Inhabited

inductive HObj where
  | cells (elem : TypeId) (c : List AV)
  | mapo (es : List MEnt)
  | tok (elem : TypeId) (ext : Bool)
  | iter (s : List UInt8) (pos : Nat)
  deriving Inhabited

inductive Tr where
  | nil
  | node (v : Option HObj) (l r : Tr)
  deriving Inhabited

def Tr.get : Tr → Nat → Option HObj
  | .nil, _ => none
  | .node v l r, k => if k = 0 then v else if k % 2 = 1 then l.get (k / 2) else r.get (k / 2 - 1)

def Tr.setF : Nat → Tr → Nat → Option HObj → Tr
  | 0, t, _, _ => t
  | n + 1, .nil, k, o => if k = 0 then .node o .nil .nil else if k % 2 = 1 then .node none (Tr.setF n .nil (k / 2) o) .nil else .node none .nil (Tr.setF n .nil (k / 2 - 1) o)
  | n + 1, .node v l r, k, o => if k = 0 then .node o l r else if k % 2 = 1 then .node v (Tr.setF n l (k / 2) o) r else .node v l (Tr.setF n r (k / 2 - 1) o)

def Tr.set (t : Tr) (k : Nat) (o : Option HObj) : Tr := Tr.setF (k + 1) t k o

theorem Tr.get_setF : ∀ (n : Nat) (t : Tr) (k : Nat) (o : Option HObj) (j : Nat), k < n → (Tr.setF n t k o).get j = if j = k then o else t.get j := by
  intro n
  induction n with
  | zero => intro t k o j h; omega
  | succ n ih =>
    intro t k o j h
    cases t with
    | nil =>
      simp only [Tr.setF]
      by_cases hk : k = 0
      · simp only [hk, if_true, Tr.get]
        by_cases hj : j = 0
        · simp [hj]
        · simp only [hj, if_false]; split <;> rfl
      · simp only [hk, if_false]
        by_cases hp : k % 2 = 1
        · simp only [hp, if_true, Tr.get]
          by_cases hj : j = 0
          · simp only [hj, if_true]; rw [if_neg (by omega)]
          · simp only [hj, if_false]
            by_cases hq : j % 2 = 1
            · simp only [hq, if_true]
              rw [ih _ _ _ _ (by omega)]
              by_cases e : j = k
              · subst e; simp
              · rw [if_neg (by omega), if_neg e]; rfl
            · simp only [hq, if_false]; rw [if_neg (by omega)]
        · simp only [hp, if_false, Tr.get]
          by_cases hj : j = 0
          · simp only [hj, if_true]; rw [if_neg (by omega)]
          · simp only [hj, if_false]
            by_cases hq : j % 2 = 1
            · simp only [hq, if_true]; rw [if_neg (by omega)]
            · simp only [hq, if_false]
              rw [ih _ _ _ _ (by omega)]
              by_cases e : j = k
              · subst e; simp
              · rw [if_neg (by omega), if_neg e]; rfl
    | node v l r =>
      simp only [Tr.setF]
      by_cases hk : k = 0
      · simp only [hk, if_true, Tr.get]
        by_cases hj : j = 0
        · simp [hj]
        · simp only [hj, if_false]
      · simp only [hk, if_false]
        by_cases hp : k % 2 = 1
        · simp only [hp, if_true, Tr.get]
          by_cases hj : j = 0
          · simp only [hj, if_true]; rw [if_neg (by omega)]
          · simp only [hj, if_false]
            by_cases hq : j % 2 = 1
            · simp only [hq, if_true]
              rw [ih _ _ _ _ (by omega)]
              by_cases e : j = k
              · subst e; simp
              · rw [if_neg (by omega), if_neg e]
            · simp only [hq, if_false]; rw [if_neg (by omega)]
        · simp only [hp, if_false, Tr.get]
          by_cases hj : j = 0
          · simp only [hj, if_true]; rw [if_neg (by omega)]
          · simp only [hj, if_false]
            by_cases hq : j % 2 = 1
            · simp only [hq, if_true]; rw [if_neg (by omega)]
            · simp only [hq, if_false]
              rw [ih _ _ _ _ (by omega)]
              by_cases e : j = k
              · subst e; simp
              · rw [if_neg (by omega), if_neg e]

theorem Tr.get_set (t : Tr) (k : Nat) (o : Option HObj) (j : Nat) : (t.set k o).get j = if j = k then o else t.get j :=
  Tr.get_setF _ t k o j (by omega)

structure St where
  next : Nat
  heap : Tr
  deriving Inhabited

def St.upd (s : St) (r : Nat) (o : HObj) : St := { s with heap := s.heap.set r (some o) }
def St.del (s : St) (r : Nat) : St := { s with heap := s.heap.set r none }
def St.alloc (s : St) (o : HObj) : St := { next := s.next + 1, heap := s.heap.set s.next (some o) }

inductive COut where
  | ret (v : AV) (s : St)
  | panic (v : AV) (s : St)
  | fail (why : String)
  deriving Inhabited

inductive RecMode where
  | off | none | avail (v : AV) | taken
  deriving Inhabited

structure Fr where
  tmps : List AV
  defers : List (AV × List AV)
  rcv : RecMode
  deriving Inhabited

inductive EExit where
  | normal | exit (id : Nat) | goto (l : Nat) | ret | panic (v : AV)
  deriving Inhabited

inductive Out where
  | ok (e : EExit) (fr : Fr) (s : St)
  | fail (why : String)
  deriving Inhabited

inductive ORes where
  | val (v : AV)
  | new (o : HObj) (mk : Nat → AV)
  | eff (v : AV) (s : St)
  | panic (v : AV)
  | defer (f : AV) (args : List AV)
  | call (f : FuncId) (args : List AV)
  | recover
  | fail (why : String)
  deriving Inhabited

def lset {α : Type} : List α → Nat → α → List α
  | [], _, _ => []
  | _ :: l, 0, b => b :: l
  | a :: l, n + 1, b => a :: lset l n b

def lget {α : Type} : List α → Nat → Option α
  | [], _ => none
  | a :: _, 0 => some a
  | _ :: l, n + 1 => lget l n

theorem lget_eq {α : Type} : ∀ (l : List α) (n : Nat), lget l n = l[n]?
  | [], _ => by simp [lget]
  | a :: _, 0 => by simp [lget]
  | _ :: l, n + 1 => by simp [lget, lget_eq l n]

theorem lset_eq {α : Type} : ∀ (l : List α) (n : Nat) (b : α), lset l n b = l.set n b
  | [], _, _ => by simp [lset]
  | _ :: l, 0, b => by simp [lset]
  | a :: l, n + 1, b => by simp [lset, lset_eq l n b]

def tget (l : List AV) (n : Nat) : AV := (lget l n).getD .undef

def lsetMany (l : List AV) (off : Nat) : List AV → List AV
  | [] => l
  | v :: vs => lsetMany (lset l off v) (off + 1) vs

def ltake (l : List AV) (off n : Nat) : Option (List AV) :=
  if off + n ≤ l.length then some ((l.drop off).take n) else none

def shapeV (agg : Bool) (cs : List AV) : Option AV :=
  if agg then some (.agg cs) else match cs with | [v] => some v | _ => none

def bytesAV (l : List UInt8) : List AV := l.map fun c => .int .u8 c.toNat

def avBytes : List AV → Option (List UInt8)
  | [] => some []
  | .int .u8 n :: l => if 0 ≤ n ∧ n < 256 then (avBytes l).map (UInt8.ofNat n.toNat :: ·) else none
  | _ :: _ => none

/-- What a cell that is held against another one holds. -/
inductive CK where
  | b | i | s
  deriving DecidableEq, Inhabited

/-- By which of the model's rules two values are held against each other. -/
inductive EqT where
  | b | p | s | m | f | i
  | a (ks : List CK)
  deriving Inhabited

def eqC : CK → AV → AV → Option Bool
  | .b, .bool a, .bool b => some (a == b)
  | .i, .int k a, .int l b => if k = l then some (decide (a = b)) else none
  | .s, .str a, .str b => some (decide (a = b))
  | _, _, _ => none

def eqCL : List CK → List AV → List AV → Option Bool
  | [], [], [] => some true
  | k :: ks, a :: x, b :: y => match eqC k a b with
    | some true => eqCL ks x y
    | some false => some false
    | none => none
  | _, _, _ => none

def eqT : EqT → AV → AV → Option Bool
  | .b, .bool a, .bool b => some (a == b)
  | .p, .nilptr, .nilptr => some true
  | .p, .nilptr, .ptr .. => some false
  | .p, .nilptr, .iptr .. => some false
  | .p, .ptr .., .nilptr => some false
  | .p, .iptr .., .nilptr => some false
  | .p, .ptr r o, .ptr q p => if r = q then some (decide (o = p)) else none
  | .s, .nilslice, .nilslice => some true
  | .s, .nilslice, .slice .. => some false
  | .s, .slice .., .nilslice => some false
  | .s, .nilslice, .arr .. => some false
  | .s, .arr .., .nilslice => some false
  | .m, .nilmap, .nilmap => some true
  | .m, .nilmap, .map _ => some false
  | .m, .map _, .nilmap => some false
  | .f, .nilFunc, .nilFunc => some true
  | .f, .nilFunc, .func .. => some false
  | .f, .func .., .nilFunc => some false
  | .i, .nilIface, .iface .. => some false
  | .i, .iface .., .nilIface => some false
  | .a ks, .agg a, .agg b => eqCL ks a b
  | _, _, _ => none

def findKey (kt : CK) (k : AV) : List MEnt → Nat → Option (Option (Nat × AV))
  | [], _ => some none
  | e :: es, i => match eqC kt k e.key with
    | some true => some (some (i, e.val))
    | some false => findKey kt k es (i + 1)
    | none => none

def buildV : List AV → List (Nat × Nat × AV) → Option (List AV)
  | cs, [] => some cs
  | cs, (off, size, v) :: rest =>
    if v.cells.length = size ∧ off + size ≤ cs.length ∧ v.storable then buildV (lsetMany cs off v.cells) rest else none

def groupAgg (size : Nat) : Nat → List AV → List AV
  | 0, _ => []
  | n + 1, cs => .agg (cs.take size) :: groupAgg size n (cs.drop size)

def groupEls (agg : Bool) (size n : Nat) (cs : List AV) : List AV := if agg then groupAgg size n cs else cs

end GoE

/- The evaluator itself: the small code that it runs, one step of it, regions, code, calls. No condition. -/
namespace GoE
open Go

inductive EArg where
  | t (i : Nat)
  | k (v : AV)
  deriving Inhabited

inductive EK where
  | mov (x : EArg)
  | pick (c a b : EArg)
  | alloc (elem : TypeId) (zero : List AV)
  | box (elem : TypeId) (x : EArg)
  | build (zero : List AV) (parts : List (Nat × Nat × EArg))
  | bsliceV (sz : Nat) (agg : Bool) (len : Nat) (zero : List AV) (parts : List (Nat × Nat × EArg))
  | bsliceM (elem : TypeId) (sz len : Nat) (zero : List AV) (parts : List (Nat × Nat × EArg))
  | load (sz : Nat) (agg : Bool) (a : EArg)
  | store (sz : Nat) (a v : EArg)
  | nilc (x : EArg)
  | bin (op : BinOp) (x y : EArg)
  | eq (neg : Bool) (t : EqT) (x y : EArg)
  | un (op : UnOp) (x : EArg)
  | toInt (k : IntKind) (x : EArg)
  | runeStr (x : EArg)
  | strStr (x : EArg)
  | strBytes (elem : TypeId) (x : EArg)
  | bytesStr (x : EArg)
  | cast (at' : List (TypeId × Nat × Nat)) (x : EArg)
  | mkI (t : TypeId) (x : EArg)
  | mkF (fn : Fn) (first cap : List EArg)
  | mkM
  | mkS (elem : TypeId) (sz bytes : Nat) (muty : Bool) (zero : List AV) (l c : EArg)
  | slS (x : EArg) (lo hi : Option EArg)
  | slV (sz : Nat) (x : EArg) (lo hi mx : Option EArg)
  | slA (n sz : Nat) (x : EArg) (lo hi : Option EArg)
  | addOff (off : Nat) (x : EArg)
  | fget (off sz : Nat) (agg : Bool) (x : EArg)
  | idxS (sz : Nat) (x i : EArg)
  | idxA (n sz : Nat) (x i : EArg)
  | idxStr (x i : EArg)
  | idxArr (n sz : Nat) (agg : Bool) (x i : EArg)
  | lookup (kt : CK) (zero : AV) (ok : Bool) (m k : EArg)
  | mapUpd (kt : CK) (m k v : EArg)
  | range (x : EArg)
  | next (x : EArg)
  | assert (t : TypeId) (zero : Option AV) (ok : Bool) (x : EArg)
  | extr (i : Nat) (x : EArg)
  | lenS (x : EArg)
  | len (x : EArg)
  | lenM (x : EArg)
  | lenK (n : Nat)
  | cap (x : EArg)
  | append (elem : TypeId) (sz bytes : Nat) (agg muty : Bool) (a x : EArg)
  | appendStr (elem : TypeId) (bytes : Nat) (a x : EArg)
  | copy (sz : Nat) (agg : Bool) (a x : EArg)
  | copyStr (a x : EArg)
  | maxmin (isMax : Bool) (x : EArg) (xs : List EArg)
  | delete (kt : CK) (m k : EArg)
  | clear (sz : Nat) (zero : List AV) (x : EArg)
  | recover
  | usd (x : EArg)
  | us (u : TypeId) (p n : EArg)
  | callf (f : FuncId) (args : List EArg)
  | callv (x : EArg) (args : List EArg)
  | defer (x : EArg) (args : List EArg)
  | panic (x : EArg)
  | bad
  deriving Inhabited

structure EOp where
  dst : Option Nat
  guard : Option (Nat × Bool)
  k : EK
  deriving Inhabited

inductive Cls where
  | p | l | a | w
  deriving DecidableEq, Inhabited

/-- The class of an operation in a region that draws its order: touches no abstract memory; a load; makes one object; all else. -/
def EK.cls : EK → Cls
  | .mov _ | .pick .. | .build .. | .bsliceV .. | .nilc _ | .bin .. | .eq .. | .un .. | .toInt .. | .runeStr _ | .strStr _ | .mkI .. | .mkF .. | .slS .. | .slV .. | .slA ..
  | .addOff .. | .fget .. | .idxS .. | .idxA .. | .idxStr .. | .idxArr .. | .assert .. | .extr .. | .lenS _ | .len _ | .lenK _ | .cap _ | .maxmin .. | .usd _ => .p
  | .load .. => .l
  | .alloc .. | .box .. | .bsliceM .. | .mkM => .a
  | _ => .w

structure DOp where
  op : EOp
  panicOK : Bool
  junk : List Nat
  wl : List Nat
  deriving Inhabited

inductive EC where
  | skip
  | ops (l : List EOp)
  | draw (l : List DOp)
  | seq (a b : EC)
  | cond (c : EArg) (thn els : EC)
  | block (id : Nat) (body : EC)
  | loop (kill : List Bool) (body : EC)
  | exit (id : Nat)
  | scope (body : EC)
  | scopeAt (whole cur : EC)
  | label (l : Nat)
  | goto (l : Nat)
  | ret
  | stop
  deriving Inhabited

inductive ERes where
  | tmp (t : Nat)
  | cell (a sz : Nat) (agg : Bool)
  deriving Inhabited

structure EFn where
  ntmps : Nat
  results : List ERes
  body : EC
  deriving Inhabited

structure Rt where
  bounds : TypeId
  error : TypeId
  plain : TypeId

structure EProg where
  rt : Rt
  fn : Nat → Option EFn
  prim : Nat → Option (List AV → St → COut)

def EArg.ev (tmps : List AV) : EArg → AV
  | .t i => tget tmps i
  | .k v => v

def loadL (s : St) (a : AV) (n : Nat) : Option (List AV) :=
  match a with
  | .ptr r off => match s.heap.get r with
    | some (.cells _ c) => ltake c off n
    | _ => none
  | .iptr c off => ltake c off n
  | _ => none

/-- The elements of a slice; 'none' where they cannot be seen. -/
def slElems (s : St) (sz : Nat) (agg : Bool) : AV → Option (List AV)
  | .nilslice => some []
  | .slice z _ es => if z = sz then some es else none
  | .arr r off len _ => match s.heap.get r with
    | some (.cells _ c) => (ltake c off (len * sz)).map (groupEls agg sz len)
    | _ => none
  | _ => none

section
variable (R : Rt)

def pBounds : ORes := .panic (.iface R.bounds .junk)
def pError : ORes := .panic (.iface R.error .junk)
def pPlain : ORes := .panic (.iface R.plain .junk)

def intArithV (op : BinOp) (k : IntKind) (a b : Int) : ORes :=
  match op with
  | .add => .val (.int k (k.wrap (a + b)))
  | .sub => .val (.int k (k.wrap (a - b)))
  | .mul => .val (.int k (k.wrap (a * b)))
  | .quo => if b = 0 then pError R else .val (.int k (k.wrap (a.tdiv b)))
  | .rem => if b = 0 then pError R else .val (.int k (a.tmod b))
  | .and => .val (.int k (k.wrap (BitVec.ofInt k.bits a &&& BitVec.ofInt k.bits b).toNat))
  | .or => .val (.int k (k.wrap (BitVec.ofInt k.bits a ||| BitVec.ofInt k.bits b).toNat))
  | .xor => .val (.int k (k.wrap (BitVec.ofInt k.bits a ^^^ BitVec.ofInt k.bits b).toNat))
  | .andNot => .val (.int k (k.wrap (BitVec.ofInt k.bits a &&& ~~~ (BitVec.ofInt k.bits b)).toNat))
  | .eql => .val (.bool (a == b))
  | .neq => .val (.bool (a != b))
  | .lss => .val (.bool (decide (a < b)))
  | .leq => .val (.bool (decide (a ≤ b)))
  | .gtr => .val (.bool (decide (a > b)))
  | .geq => .val (.bool (decide (a ≥ b)))
  | .shl => if b < 0 then pError R else .val (.int k (k.wrap (a * 2 ^ (min b.toNat k.bits))))
  | .shr => if b < 0 then pError R else .val (.int k (a.fdiv (2 ^ (min b.toNat k.bits))))

def strOpV (op : BinOp) (a b : List UInt8) : ORes :=
  match op with
  | .add => if a.length + b.length ≤ 4611686018427387904 then .val (.str (a ++ b)) else .fail "string too long"
  | .eql => .val (.bool (decide (a = b)))
  | .neq => .val (.bool (!(decide (a = b))))
  | .lss => .val (.bool (Op.bytesLess a b))
  | .leq => .val (.bool (Op.bytesLess a b || decide (a = b)))
  | .gtr => .val (.bool (!(Op.bytesLess a b || decide (a = b))))
  | .geq => .val (.bool (!Op.bytesLess a b))
  | _ => .fail "strop"

def binOpV (op : BinOp) (x y : AV) : ORes :=
  match x, y with
  | .int k a, .int k' b => if k = k' ∨ op = .shl ∨ op = .shr then intArithV R op k a b else .fail "binop kinds"
  | .str a, .str b => strOpV op a b
  | _, _ => .fail "binop"

def appendV (s : St) (elem : TypeId) (sz bytes : Nat) (agg muty : Bool) (a : AV) (xs : List AV) : ORes :=
  match slElems s sz agg a with
  | none => .fail "append: first"
  | some es =>
    if (es.length + xs.length) * bytes ≤ 1099511627776 ∧ es.length + xs.length ≤ 1099511627776 then
      if xs.isEmpty then .val a else
      match a with
      | .nilslice => if muty then .eff (.arr s.next 0 xs.length none) (s.alloc (.cells elem (xs.flatMap AV.cells)))
        else .eff (.slice sz (.id s.next) xs) (s.alloc (.tok elem false))
      | .slice _ .exact _ => if muty then .eff (.arr s.next 0 (es.length + xs.length) none) (s.alloc (.cells elem ((es ++ xs).flatMap AV.cells))) else .eff (.slice sz (.id s.next) (es ++ xs)) (s.alloc (.tok elem false))
      | .slice _ (.id n) _ => if muty then .fail "append: muty" else match s.heap.get n with
        | some (.tok el false) =>
          if el = elem then .eff (.slice sz (.id s.next) (es ++ xs)) ((s.upd n (.tok el true)).alloc (.tok el false)) else .fail "append: type"
        | _ => .fail "append: extended"
      | .arr r off len cap =>
        if cap = some len then
          if muty then .eff (.arr s.next 0 (es.length + xs.length) none) (s.alloc (.cells elem ((es ++ xs).flatMap AV.cells)))
          else .eff (.slice sz (.id s.next) (es ++ xs)) (s.alloc (.tok elem false))
        else match s.heap.get r with
          | some (.cells el c) =>
            if cap = none ∧ off = 0 ∧ el = elem ∧ c.length = len * sz then .eff (.arr s.next 0 (len + xs.length) none) ((s.del r).alloc (.cells elem (c ++ xs.flatMap AV.cells))) else .fail "append: array"
          | _ => .fail "append: array"
      | _ => .fail "append: kind"
    else .fail "append: too long"

def bnd (x : Option EArg) (tmps : List AV) (d : Int) : Option Int :=
  match x with
  | none => some d
  | some x => match x.ev tmps with | .int _ n => some n | _ => none

def sliceStrV (b : List UInt8) (l h : Int) : ORes :=
  if 0 ≤ h ∧ h ≤ b.length then (if 0 ≤ l ∧ l ≤ h then .val (.str ((b.drop l.toNat).take (h - l).toNat)) else pBounds R) else pBounds R

def opV (tmps : List AV) (s : St) (k : EK) : ORes :=
  match k with
  | .mov x => .val (x.ev tmps)
  | .pick c a b => match c.ev tmps with | .bool t => .val (if t then a.ev tmps else b.ev tmps) | _ => .fail "pick"
  | .alloc e z => .new (.cells e z) fun r => .ptr r 0
  | .box e x => if (x.ev tmps).storable then .new (.cells e (x.ev tmps).cells) fun r => .ptr r 0 else .fail "box"
  | .build z parts => match buildV z (parts.map fun (o, n, x) => (o, n, x.ev tmps)) with
    | some cs => .val (.agg cs)
    | none => .fail "build"
  | .bsliceV sz agg len z parts => match buildV z (parts.map fun (o, n, x) => (o, n, x.ev tmps)) with
    | some cs => .val (.slice sz .exact (groupEls agg sz len cs))
    | none => .fail "buildSlice"
  | .bsliceM e _ len z parts => match buildV z (parts.map fun (o, n, x) => (o, n, x.ev tmps)) with
    | some cs => .new (.cells e cs) fun r => .arr r 0 len (some len)
    | none => .fail "buildSlice"
  | .load sz agg a => match (loadL s (a.ev tmps) sz).bind (shapeV agg) with
    | some v => .val v
    | none => .fail "load"
  | .store sz a v => match a.ev tmps with
    | .ptr r off => match s.heap.get r with
      | some (.cells e c) =>
        if (v.ev tmps).cells.length = sz ∧ off + sz ≤ c.length ∧ (v.ev tmps).storable then .eff .undef (s.upd r (.cells e (lsetMany c off (v.ev tmps).cells)))
        else .fail "store: size"
      | _ => .fail "store: object"
    | _ => .fail "store: address"
  | .nilc x => match x.ev tmps with
    | .nilptr | .nilIface | .nilFunc => pError R
    | .ptr r o => .val (.ptr r o)
    | .iptr c o => .val (.iptr c o)
    | _ => .fail "nilCheck"
  | .bin op x y => binOpV R op (x.ev tmps) (y.ev tmps)
  | .eq neg t x y => match eqT t (x.ev tmps) (y.ev tmps) with
    | some b => .val (.bool (if neg then !b else b))
    | none => .fail "eq"
  | .un op x => match op, x.ev tmps with
    | .neg, .int k n => .val (.int k (k.wrap (0 - n)))
    | .xor, .int k n => .val (.int k (k.wrap (BitVec.ofInt k.bits (if k.signed then -1 else k.max) ^^^ BitVec.ofInt k.bits n).toNat))
    | .not, .bool b => .val (.bool (!b))
    | _, _ => .fail "unop"
  | .toInt k x => match x.ev tmps with | .int _ n => .val (.int k (k.wrap n)) | _ => .fail "convert int"
  | .runeStr x => match x.ev tmps with | .int _ n => .val (.str (Utf8.encode n).data.toList) | _ => .fail "convert rune"
  | .strStr x => match x.ev tmps with | .str l => .val (.str l) | _ => .fail "convert string"
  | .strBytes e x => match x.ev tmps with | .str l => .eff (.arr s.next 0 l.length none) (s.alloc (.cells e (bytesAV l))) | _ => .fail "convert bytes"
  | .bytesStr x => match (slElems s 1 false (x.ev tmps)).bind avBytes with | some l => .val (.str l) | none => .fail "convert bytes to string"
  | .cast ats x => match x.ev tmps with
    | .nilptr => .val .nilptr
    | .ptr r off => match s.heap.get r with
      | some (.cells e c) => if ats.any (fun (e', n, o) => decide (e' = e) && decide (o = off) && decide (n ≤ c.length)) then .val (.ptr r off) else .fail "cast: another type"
      | _ => .fail "cast: object"
    | _ => .fail "cast"
  | .mkI t x => .val (.iface t (x.ev tmps))
  | .mkF fn first cap => .val (.func fn (first.map (EArg.ev tmps)) (cap.map (EArg.ev tmps)))
  | .mkM => .new (.mapo []) fun r => .map r
  | .mkS e sz bytes muty z l c => match l.ev tmps, c.ev tmps with
    | .int _ l, .int _ c =>
      if 0 ≤ l ∧ l ≤ c ∧ c * bytes ≤ 1099511627776 ∧ c ≤ 1099511627776 then
        if l = 0 then (if muty then .eff (.arr s.next 0 0 none) (s.alloc (.cells e [])) else .eff (.slice sz (.id s.next) []) (s.alloc (.tok e false)))
        else .new (.cells e ((List.replicate c.toNat z).flatten)) fun r => .arr r 0 l.toNat (some c.toNat)
      else .fail "makeSlice"
    | _, _ => .fail "makeSlice"
  | .slS x lo hi => match x.ev tmps with
    | .str b => match bnd lo tmps 0, bnd hi tmps b.length with
      | some l, some h => sliceStrV R b l h
      | _, _ => .fail "slice"
    | _ => .fail "slice"
  | .slV sz x lo hi mx => match x.ev tmps with
    | .nilslice => match bnd lo tmps 0, bnd hi tmps 0, bnd mx tmps 0 with
      | some 0, some 0, some 0 => .val .nilslice
      | _, _, _ => .fail "slice: nil"
    | .slice z tk es =>
      if z = sz then
        match bnd lo tmps 0, bnd hi tmps es.length with
        | some l, some h =>
          if 0 ≤ l ∧ l ≤ h ∧ h ≤ es.length then
            match mx with
            | none => .val (.slice sz (if h = es.length then tk else .closed) ((es.drop l.toNat).take (h - l).toNat))
            | some m => match m.ev tmps with
              | .int _ m => if h ≤ m ∧ m ≤ es.length then .val (.slice sz (if m = h then .exact else .closed) ((es.drop l.toNat).take (h - l).toNat)) else .fail "slice: max"
              | _ => .fail "slice: max"
          else if 0 ≤ h ∧ h ≤ es.length ∧ mx.isNone then pBounds R
          else .fail "slice: beyond"
        | _, _ => .fail "slice"
      else .fail "slice: size"
    | .arr r off len cap => match bnd lo tmps 0, bnd hi tmps len with
      | some l, some h =>
        if 0 ≤ l ∧ l ≤ h ∧ h ≤ len then
          match mx with
          | none => .val (.arr r (off + l.toNat * sz) (h - l).toNat (cap.map (· - l.toNat)))
          | some m => match m.ev tmps with
            | .int _ m => if h ≤ m ∧ m ≤ len then .val (.arr r (off + l.toNat * sz) (h - l).toNat (some (m - l).toNat)) else .fail "slice: max"
            | _ => .fail "slice: max"
        else if 0 ≤ h ∧ h ≤ len ∧ mx.isNone then pBounds R
        else .fail "slice: beyond"
      | _, _ => .fail "slice"
    | _ => .fail "slice: kind"
  | .slA n sz x lo hi => match x.ev tmps with
    | .ptr r off => match bnd lo tmps 0, bnd hi tmps n with
      | some l, some h =>
        if 0 ≤ l ∧ l ≤ h ∧ h ≤ n then .val (.arr r (off + l.toNat * sz) (h - l).toNat (some (n - l.toNat)))
        else pBounds R
      | _, _ => .fail "slice array"
    | _ => .fail "slice array"
  | .addOff off x => match x.ev tmps with
    | .ptr r o => .val (.ptr r (o + off))
    | .iptr c o => .val (.iptr c (o + off))
    | _ => .fail "fieldAddr"
  | .fget off sz agg x => match x.ev tmps with
    | .agg cs => match (ltake cs off sz).bind (shapeV agg) with | some v => .val v | none => .fail "field"
    | _ => .fail "field"
  | .idxS sz x i => match x.ev tmps, i.ev tmps with
    | .nilslice, .int _ _ => pBounds R
    | .slice z _ es, .int _ i => if z = sz then (if 0 ≤ i then (match lget es i.toNat with | some v => .val (.iptr v.cells 0) | none => pBounds R) else pBounds R) else .fail "index: size"
    | .arr r off n _, .int _ i => if 0 ≤ i ∧ i < n then .val (.ptr r (off + i.toNat * sz)) else pBounds R
    | _, _ => .fail "indexAddr"
  | .idxA n sz x i => match x.ev tmps, i.ev tmps with
    | .ptr r off, .int _ i => if 0 ≤ i ∧ i < n then .val (.ptr r (off + i.toNat * sz)) else if n ≤ 1 then .fail "tiny" else pBounds R
    | .iptr c off, .int _ i => if 0 ≤ i ∧ i < n then .val (.iptr c (off + i.toNat * sz)) else if n ≤ 1 then .fail "tiny" else pBounds R
    | _, _ => .fail "indexAddr"
  | .idxStr x i => match x.ev tmps, i.ev tmps with
    | .str l, .int _ i => if 0 ≤ i then (match lget l i.toNat with | some c => .val (.int .u8 c.toNat) | none => pBounds R) else pBounds R
    | _, _ => .fail "index"
  | .idxArr n sz agg x i => match x.ev tmps, i.ev tmps with
    | .agg cs, .int _ i => if 0 ≤ i ∧ i < n then (match (ltake cs (i.toNat * sz) sz).bind (shapeV agg) with | some v => .val v | none => .fail "index") else pBounds R
    | _, _ => .fail "index"
  | .lookup kt z ok m k => match m.ev tmps with
    | .nilmap => .val (if ok then .tuple [z, .bool false] else z)
    | .map r => match s.heap.get r with
      | some (.mapo es) => match findKey kt (k.ev tmps) es 0 with
        | some (some (_, v)) => .val (if ok then .tuple [v, .bool true] else v)
        | some none => .val (if ok then .tuple [z, .bool false] else z)
        | none => .fail "lookup key"
      | _ => .fail "lookup"
    | _ => .fail "lookup"
  | .mapUpd kt m k v => match m.ev tmps with
    | .map r => match s.heap.get r with
      | some (.mapo es) => match findKey kt (k.ev tmps) es 0 with
        | some (some (i, _)) => .eff .undef (s.upd r (.mapo (lset es i ⟨k.ev tmps, v.ev tmps⟩)))
        | some none => .eff .undef (s.upd r (.mapo (es ++ [⟨k.ev tmps, v.ev tmps⟩])))
        | none => .fail "mapUpdate key"
      | _ => .fail "mapUpdate"
    | .nilmap => pPlain R
    | _ => .fail "mapUpdate"
  | .range x => match x.ev tmps with
    | .str l => .new (.iter l 0) fun r => .ptr r 0
    | _ => .fail "range"
  | .next x => match x.ev tmps with
    | .ptr r 0 => match s.heap.get r with
      | some (.iter l pos) =>
        if pos < l.length then
          let d := Utf8.decode ⟨l.toArray⟩ pos
          .eff (.tuple [.bool true, .int .i64 pos, .int .i32 d.1]) (s.upd r (.iter l (pos + d.2)))
        else .val (.tuple [.bool false])
      | _ => .fail "next"
    | _ => .fail "next"
  | .assert t z ok x => match x.ev tmps with
    | .nilIface => match ok, z with | true, some z => .val (.tuple [z, .bool false]) | _, _ => .fail "assert"
    | .iface u v => if u = t then .val (if ok then .tuple [v, .bool true] else v) else match ok, z with | true, some z => .val (.tuple [z, .bool false]) | _, _ => .fail "assert"
    | _ => .fail "assert"
  | .extr i x => match x.ev tmps with | .tuple vs => (match lget vs i with | some v => .val v | none => .fail "extract") | _ => .fail "extract"
  | .lenS x => match x.ev tmps with
    | .str l => .val (.int .i64 l.length)
    | _ => .fail "len"
  | .len x => match x.ev tmps with
    | .nilslice => .val (.int .i64 0)
    | .slice _ _ es => .val (.int .i64 es.length)
    | .arr _ _ n _ => .val (.int .i64 n)
    | _ => .fail "len"
  | .lenM x => match x.ev tmps with
    | .nilmap => .val (.int .i64 0)
    | .map r => match s.heap.get r with | some (.mapo es) => .val (.int .i64 es.length) | _ => .fail "len map"
    | _ => .fail "len"
  | .lenK n => .val (.int .i64 n)
  | .cap x => match x.ev tmps with
    | .nilslice => .val (.int .i64 0)
    | .slice _ .exact es => .val (.int .i64 es.length)
    | .arr _ _ _ (some c) => .val (.int .i64 c)
    | _ => .fail "cap"
  | .append e sz bytes agg muty a x => match slElems s sz agg (x.ev tmps) with
    | some xs => appendV s e sz bytes agg muty (a.ev tmps) xs
    | none => .fail "append: arg"
  | .appendStr e bytes a x => match x.ev tmps with
    | .str l => appendV s e 1 bytes false false (a.ev tmps) (bytesAV l)
    | _ => .fail "append: string"
  | .copy sz agg a x => match a.ev tmps, slElems s sz agg (x.ev tmps) with
    | .nilslice, some _ => .val (.int .i64 0)
    | .arr r off n _, some xs => match s.heap.get r with
      | some (.cells e c) =>
        if off + n * sz ≤ c.length then .eff (.int .i64 (min n xs.length)) (s.upd r (.cells e (lsetMany c off ((xs.take n).flatMap AV.cells)))) else .fail "copy"
      | _ => .fail "copy: object"
    | _, _ => .fail "copy"
  | .copyStr a x => match a.ev tmps, x.ev tmps with
    | .nilslice, .str _ => .val (.int .i64 0)
    | .arr r off n _, .str l => match s.heap.get r with
      | some (.cells e c) =>
        if off + n ≤ c.length then .eff (.int .i64 (min n l.length)) (s.upd r (.cells e (lsetMany c off (bytesAV (l.take n))))) else .fail "copy"
      | _ => .fail "copy: object"
    | _, _ => .fail "copy"
  | .maxmin mx x xs => match x.ev tmps with
    | .int k a => mmFold mx k a (xs.map (EArg.ev tmps))
    | _ => .fail "max"
  | .delete kt m k => match m.ev tmps with
    | .nilmap => .val (.tuple [])
    | .map r => match s.heap.get r with
      | some (.mapo es) => match findKey kt (k.ev tmps) es 0 with
        | some (some (i, _)) => .eff (.tuple []) (s.upd r (.mapo (es.eraseIdx i)))
        | some none => .val (.tuple [])
        | none => .fail "delete key"
      | _ => .fail "delete"
    | _ => .fail "delete"
  | .clear sz z x => match x.ev tmps with
    | .nilslice => .val (.tuple [])
    | .arr r off n _ => match s.heap.get r with
      | some (.cells e c) => if off + n * sz ≤ c.length then .eff (.tuple []) (s.upd r (.cells e (lsetMany c off ((List.replicate n z).flatten)))) else .fail "clear"
      | _ => .fail "clear"
    | .slice _ _ [] => .val (.tuple [])
    | _ => .fail "clear"
  | .recover => .recover
  | .usd x => match x.ev tmps with
    | .nilslice => .val .nilptr
    | .slice 1 (.id r) (e :: es) => .val (.tptr r ((e :: es).flatMap AV.cells))
    | _ => .fail "sliceData"
  | .us u p n => match p.ev tmps, n.ev tmps with
    | .nilptr, .int _ 0 => .val (.str [])
    | .tptr r c, .int _ n => match s.heap.get r with
      | some (.tok el _) => if n = c.length ∧ el = u ∧ c.length ≤ 1099511627776 then (match avBytes c with | some l => .val (.str l) | none => .fail "unsafeString") else .fail "unsafeString"
      | _ => .fail "unsafeString"
    | _, _ => .fail "unsafeString"
  | .callf f args => .call f (args.map (EArg.ev tmps))
  | .callv x args => match x.ev tmps with
    | .func (.func g) first cap => .call g (first ++ args.map (EArg.ev tmps) ++ cap)
    | .nilFunc => pError R
    | _ => .fail "call value"
  | .defer x args => match x.ev tmps with | .func fn first cap => .defer (.func fn first cap) (args.map (EArg.ev tmps)) | _ => .fail "defer"
  | .panic x => match x.ev tmps with | .iface t v => .panic (.iface t v) | _ => .fail "panic"
  | .bad => .fail "no such operation"
where
  mmFold (mx : Bool) (k : IntKind) : Int → List AV → ORes
    | a, [] => .val (.int k a)
    | a, .int _ b :: rest => mmFold mx k (if mx then (if b > a then b else a) else (if b < a then b else a)) rest
    | _, _ :: _ => .fail "max"

def Fr.put (fr : Fr) (d : Option Nat) (v : AV) : Fr :=
  match d with
  | some d => { fr with tmps := lset fr.tmps d v }
  | none => fr

/-- Slots that nothing will read are let go. -/
def killM : List Bool → List AV → List AV
  | [], l => l
  | _ :: _, [] => []
  | k :: m, a :: l => (if k then .junk else a) :: killM m l

def Fr.kill (fr : Fr) (kl : List Bool) : Fr := { fr with tmps := killM kl fr.tmps }

def wantedV (g : Option (Nat × Bool)) (tmps : List AV) : Option Bool :=
  match g with
  | none => some true
  | some (t, want) => match tget tmps t with
    | .bool b => some (b == want)
    | .undef => some false
    | _ => none

variable (call : FuncId → List AV → St → COut)

def execOps : List EOp → Fr → St → Out
  | [], fr, s => .ok .normal fr s
  | o :: rest, fr, s =>
    match wantedV o.guard fr.tmps with
    | none => .fail "guard"
    | some false => execOps rest (fr.put o.dst .undef) s
    | some true =>
      match opV R fr.tmps s o.k with
      | .val v => execOps rest (fr.put o.dst v) s
      | .new ob mk => execOps rest (fr.put o.dst (mk s.next)) (s.alloc ob)
      | .eff v s => execOps rest (fr.put o.dst v) s
      | .panic v => .ok (.panic v) fr s
      | .defer f args => execOps rest ({ fr with defers := (f, args) :: fr.defers }.put o.dst .undef) s
      | .recover => match fr.rcv with
        | .off => .fail "recover"
        | .avail v => execOps rest ({ fr with rcv := .taken }.put o.dst v) s
        | _ => execOps rest (fr.put o.dst .nilIface) s
      | .call f args => match call f args s with
        | .ret v s => execOps rest (fr.put o.dst v) s
        | .panic v s => .ok (.panic v) fr s
        | .fail w => .fail w
      | .fail w => .fail w

inductive DLog where
  | w (pos : Nat) (s0 s1 : St)
  | l (a : AV) (n : Nat) (wl : List Nat)
  deriving Inhabited

def DLog.ok (base : Nat) (log : List DLog) : DLog → Bool
  | .w .. => true
  | .l a n wl =>
    (match a with | .ptr r _ => decide (r < base) | _ => true) &&
    log.all fun
      | .w pos s0 s1 => !wl.contains pos || (match loadL s0 a n, loadL s1 a n with
        | some x, some y => AV.beqL x y
        | _, _ => false)
      | .l .. => true

/-- One region that draws its order, in its canonical order: 'base' is the first of the names set aside, 'pos' where we stand. -/
def execDraw (base : Nat) : Nat → List DOp → Fr → St → List DLog → Out × List DLog
  | _, [], fr, s, log => (.ok .normal fr s, log)
  | pos, d :: rest, fr, s, log =>
    match wantedV d.op.guard fr.tmps with
    | none => (.fail "guard", log)
    | some false => execDraw base (pos + 1) rest (fr.put d.op.dst .undef) s log
    | some true =>
      match opV R fr.tmps s d.op.k with
      | .val v => execDraw base (pos + 1) rest (fr.put d.op.dst v) s (match d.op.k with | .load sz _ a => .l (a.ev fr.tmps) sz d.wl :: log | _ => log)
      | .new ob mk => match d.op.k.cls with
        | .a => execDraw base (pos + 1) rest (fr.put d.op.dst (mk (base + pos))) { s with heap := s.heap.set (base + pos) (some ob) } log
        | .w => execDraw base (pos + 1) rest (fr.put d.op.dst (mk s.next)) (s.alloc ob) (.w pos s (s.alloc ob) :: log)
        | _ => (.fail "class", log)
      | .eff v s' => match d.op.k.cls with
        | .w => execDraw base (pos + 1) rest (fr.put d.op.dst v) s' (.w pos s s' :: log)
        | _ => (.fail "class", log)
      | .panic v => if d.panicOK ∧ d.op.k.cls = .w then (.ok (.panic v) { fr with tmps := d.junk.foldl (fun t i => lset t i .junk) fr.tmps } s, log) else (.fail "panic in a drawn region", log)
      | .call f args => match d.op.k.cls with
        | .w => match call f args s with
          | .ret v s' => execDraw base (pos + 1) rest (fr.put d.op.dst v) s' (.w pos s s' :: log)
          | .panic v s' => if d.panicOK then (.ok (.panic v) { fr with tmps := d.junk.foldl (fun t i => lset t i .junk) fr.tmps } s', log) else (.fail "panic in a drawn region", log)
          | .fail w => (.fail w, log)
        | _ => (.fail "class", log)
      | .fail w => (.fail w, log)
      | _ => (.fail "no such operation in a drawn region", log)

def runDraw (l : List DOp) (fr : Fr) (s : St) : Out :=
  match execDraw R call s.next 0 l fr { s with next := s.next + l.length } [] with
  | (.ok e fr s', log) => if log.all (DLog.ok s.next log) then .ok e fr s' else .fail "a drawn region's loads"
  | (o, _) => o

def EC.find : EC → Nat → Option EC
  | .seq a b, l => match a.find l with
    | some rest => some (.seq rest b)
    | none => b.find l
  | .label l', l => if l' = l then some .skip else none
  | _, _ => none

def exec : Nat → EC → Fr → St → Out
  | 0, _, _, _ => .fail "fuel"
  | n + 1, c, fr, s =>
    match c with
    | .skip | .label _ => .ok .normal fr s
    | .ops l => execOps R call l fr s
    | .draw l => runDraw R call l fr s
    | .seq a b => match exec n a fr s with
      | .ok .normal fr s => exec n b fr s
      | o => o
    | .cond c a b => match c.ev fr.tmps with
      | .bool t => exec n (if t then a else b) fr s
      | _ => .fail "cond"
    | .block id b => match exec n b fr s with
      | .ok (.exit i) fr s => if i = id then .ok .normal fr s else .ok (.exit i) fr s
      | o => o
    | .loop kl b => match exec n b (fr.kill kl) s with
      | .ok .normal fr s => exec n (.loop kl b) fr s
      | o => o
    | .exit id => .ok (.exit id) fr s
    | .goto l => .ok (.goto l) fr s
    | .scope b => exec n (.scopeAt b b) fr s
    | .scopeAt w b => match exec n b fr s with
      | .ok (.goto l) fr s => match w.find l with
        | some rest => exec n (.scopeAt w rest) fr s
        | none => .ok (.goto l) fr s
      | o => o
    | .ret => .ok .ret fr s
    | .stop => .fail "stop"

/-- The body of a deferred function: 'recover' may stand in a plain region ahead of anything that loops. -/
def execD : Nat → EC → Fr → St → Out
  | 0, _, _, _ => .fail "fuel"
  | n + 1, c, fr, s =>
    match c with
    | .ops l => execOps R call l fr s
    | .seq a b => match execD n a fr s with
      | .ok .normal fr s => execD n b fr s
      | o => o
    | .cond c a b => match c.ev fr.tmps with
      | .bool t => execD n (if t then a else b) fr s
      | _ => .fail "cond"
    | c => match exec R call n c { fr with rcv := .off } s with
      | .ok e fr' s => .ok e { fr' with rcv := fr.rcv } s
      | o => o

def resV (s : St) (tmps : List AV) : ERes → Option AV
  | .tmp t => some (tget tmps t)
  | .cell a sz agg => (loadL s (tget tmps a) sz).bind (shapeV agg)

def resList (s : St) (tmps : List AV) : List ERes → Option (List AV)
  | [] => some []
  | r :: rs => match resV s tmps r, resList s tmps rs with
    | some v, some vs => some (v :: vs)
    | _, _ => none

def resultsV (s : St) (fn : EFn) (tmps : List AV) : Option AV :=
  match resList s tmps fn.results with
  | some [v] => some v
  | some l => some (.tuple l)
  | none => none

def EFn.enter (fn : EFn) (args : List AV) (rcv : RecMode) : Fr :=
  { tmps := args ++ List.replicate (fn.ntmps - args.length) .undef, defers := [], rcv }

def rcvOf : Option AV → RecMode
  | some v => .avail v
  | none => .none

/-- The deferred calls at a frame's end, the last laid first; 'm': what it panics with. -/
def leave (fuel : Nat) (fns : Nat → Option EFn) (fn : EFn) (tmps : List AV) : List (AV × List AV) → Option AV → St → COut
  | [], some v, s => .panic v s
  | [], none, s => match resultsV s fn tmps with | some v => .ret v s | none => .fail "results"
  | (.func (.func g) first cap, args) :: ds, m, s =>
    match fns g with
    | some gfn => match execD R call fuel gfn.body (gfn.enter (first ++ args ++ cap) (rcvOf m)) s with
      | .ok .normal fr s | .ok .ret fr s => if fr.defers.isEmpty then (match resultsV s gfn fr.tmps with
          | some _ => leave fuel fns fn tmps ds (match fr.rcv with | .taken => none | _ => m) s
          | none => .fail "deferred results") else .fail "deferred defers"
      | .ok _ _ _ => .fail "deferred exit"
      | .fail w => .fail w
    | none => .fail "deferred"
  | _ :: _, _, _ => .fail "deferred kind"

def runFn (fuel : Nat) (fns : Nat → Option EFn) (fn : EFn) (args : List AV) (s : St) : COut :=
  match exec R call fuel fn.body (fn.enter args .off) s with
  | .fail w => .fail w
  | .ok (.panic v) fr s => leave R call fuel fns fn fr.tmps fr.defers (some v) s
  | .ok .normal fr s | .ok .ret fr s => leave R call fuel fns fn fr.tmps fr.defers none s
  | .ok _ _ _ => .fail "exit"
end

def callN (X : EProg) : Nat → FuncId → List AV → St → COut
  | 0, _, _, _ => .fail "call fuel"
  | n + 1, f, args, s =>
    match X.prim f with
    | some p => p args s
    | none => match X.fn f with
      | some fn => runFn X.rt (callN X n) n X.fn fn args s
      | none => .fail "no function"

end GoE

/- From the model's code to the evaluator's: one operation, regions (those that draw their order are laid in one order, with what may move past what), code, functions. No condition. -/
namespace GoE
open Go

/-- Is it the value of one cell? -/
def AV.one : AV → Bool
  | .junk | .undef | .tuple _ | .agg _ => false
  | _ => true

mutual
def ofValue : Value → Option AV
  | .bool b => some (.bool b)
  | .int k n => some (.int k n)
  | .string s => some (.str s.data.toList)
  | .pointer none => some .nilptr
  | .slice none 0 0 => some .nilslice
  | .map none => some .nilmap
  | .nilFunc => some .nilFunc
  | .nilIface => some .nilIface
  | .func fn ⟨[]⟩ ⟨[]⟩ => some (.func fn [] [])
  | .agg ⟨cs⟩ => match ofValueL cs with
    | some l => if l.all AV.one then some (.agg l) else none
    | none => none
  | .tuple ⟨[]⟩ => some .undef
  | _ => none
def ofValueL : List Value → Option (List AV)
  | [] => some []
  | a :: l => match ofValue a, ofValueL l with
    | some x, some xs => some (x :: xs)
    | _, _ => none
end

structure TI where
  size : Nat
  bytes : Nat
  agg : Bool
  desc : TypeDesc
  zero : Option AV
  /-- may two values be held against each other with no look at interface types and stand-ins? -/
  plain : Bool
  deriving Inhabited

structure Low where
  ty : Nat → Option TI
  gl : Nat → Option AV
  muty : Nat → Bool
  /-- where, in a row of which type (and how many cells its element has), a variable of this type lies -/
  lies : Nat → List (TypeId × Nat × Nat)
  /-- package-level variables of which it is known that they hold some int -/
  ints : List Nat

section
variable (L : Low)

def Low.size (t : Nat) : Option Nat := (L.ty t).map TI.size
def Low.desc (t : Nat) : Option TypeDesc := (L.ty t).map TI.desc
def Low.zeroCells (t : Nat) : Option (List AV) :=
  match (L.ty t).bind TI.zero with
  | some z => if z.cells.all AV.one then some z.cells else none
  | none => none

def lowArg : Operand → Option EArg
  | .tmp t => some (.t t)
  | .const v => (ofValue v).map .k
  | .global g => (L.gl g).map .k
  | .func f => some (.k (.func (.func f) [] []))

def lowArgs : List Operand → Option (List EArg)
  | [] => some []
  | x :: xs => match lowArg L x, lowArgs xs with
    | some a, some as => some (a :: as)
    | _, _ => none

def lowOpt : Option Operand → Option (Option EArg)
  | none => some none
  | some x => (lowArg L x).map some

def lowParts (place : Nat → Option (Nat × Nat)) : List (Nat × Operand) → Option (List (Nat × Nat × EArg))
  | [] => some []
  | (i, x) :: rest => match place i, lowArg L x, lowParts place rest with
    | some (o, n), some a, some as => some ((o, n, a) :: as)
    | _, _, _ => none

def fieldPlaces (fs : Array Field) (i : Nat) : Option (Nat × Nat) :=
  match fs[i]? with
  | some f => (L.size f.type).map fun n => (f.offset, n)
  | none => none

def lowBuiltin (b : Builtin) (ats : Array TypeId) (args : List EArg) : Option EK :=
  match ats[0]? with
  | none => none
  | some t0 =>
    match b, args with
    | .len, [x] => match L.desc t0 with
      | some .string => some (.lenS x)
      | some (.slice _) => some (.len x)
      | some (.map _ _) => some (.lenM x)
      | some (.array n _) => some (.lenK n)
      | _ => none
    | .cap, [x] => match L.desc t0 with
      | some (.slice _) => some (.cap x)
      | some (.array n _) => some (.lenK n)
      | _ => none
    | .append, [a, x] => match L.desc t0 with
      | some (.slice e) => match L.ty e, ats[1]? with
        | some ei, some t1 =>
          if ei.size = 0 ∨ ei.zero.isNone then none else
          match L.desc t1 with
          | some .string => if ei.size = 1 ∧ ei.agg = false ∧ L.muty e = false then some (.appendStr e ei.bytes a x) else none
          | some (.slice _) => some (.append e ei.size ei.bytes ei.agg (L.muty e) a x)
          | _ => none
        | _, _ => none
      | _ => none
    | .copy, [a, x] => match L.desc t0 with
      | some (.slice e) => match L.ty e, ats[1]? with
        | some ei, some t1 =>
          if ei.size = 0 then none else
          match L.desc t1 with
          | some .string => if ei.size = 1 ∧ ei.agg = false then some (.copyStr a x) else none
          | some (.slice _) => some (.copy ei.size ei.agg a x)
          | _ => none
        | _, _ => none
      | _ => none
    | .max, x :: xs => some (.maxmin true x xs)
    | .min, x :: xs => some (.maxmin false x xs)
    | .delete, [m, k] => match L.desc t0 with
      | some (.map kt _) => match L.desc kt with
        | some (.int _) => some (.delete .i m k)
        | some .string => some (.delete .s m k)
        | _ => none
      | _ => none
    | .clear, [x] => match L.desc t0 with
      | some (.slice e) => match L.ty e, L.zeroCells e with
        | some ei, some z => if ei.size = 0 then none else some (.clear ei.size z x)
        | _, _ => none
      | _ => none
    | .unsafeSliceData, [x] => match L.desc t0 with
      | some (.slice e) => match L.desc e with
        | some (.int .u8) => some (.usd x)
        | _ => none
      | _ => none
    | .unsafeString, [p, n] => match L.desc t0 with
      | some (.pointer e) => match L.desc e with
        | some (.int .u8) => if L.size e = some 1 then some (.us e p n) else none
        | _ => none
      | _ => none
    | _, _ => none

def lowCall (c : Call) : Option EK :=
  match lowArgs L c.args.toList with
  | none => none
  | some args =>
    match c.callee with
    | .builtin .recover => some .recover
    | .builtin b => lowBuiltin L b c.argTypes args
    | .value (.func f) => some (.callf f args)
    | .value f => (lowArg L f).map fun f => .callv f args
    | .invoke .. => none

def castK (e : TypeId) (x : EArg) : Option EK :=
  match L.ty e with
  | some ti => if ti.size = 0 then none else match ti.desc with
    | .array _ _ => none
    | _ => some (.cast (L.lies e) x)
  | none => none

def lowConvert (src dst : TypeId) (x : EArg) : Option EK :=
  match L.desc src, L.desc dst with
  | some (.int _), some (.int k) => some (.toInt k x)
  | some (.int _), some .string => some (.runeStr x)
  | some .string, some .string => some (.strStr x)
  | some .string, some (.slice e) => match L.desc e with
    | some (.int .u8) => if L.size e = some 1 then some (.strBytes e x) else none
    | _ => none
  | some (.slice e), some .string => match L.desc e with
    | some (.int .u8) => some (.bytesStr x)
    | _ => none
  | some (.pointer e), some .unsafePointer => castK L e x
  | some .unsafePointer, some (.pointer e) => castK L e x
  | _, _ => none

def cellK (t : TypeId) : Option CK :=
  match L.desc t with
  | some .bool => some .b
  | some (.int _) => some .i
  | some .string => some .s
  | _ => none

/-- The cells of a struct whose fields are plain, one cell each. -/
def cellKs : List Field → Nat → Option (List CK)
  | [], _ => some []
  | f :: fs, i => if f.offset = i ∧ f.name ≠ "_" then
      match cellK L f.type, cellKs fs (i + 1) with
      | some k, some ks => some (k :: ks)
      | _, _ => none
    else none

def eqK (op : BinOp) (x y : EArg) (t : EqT) : Option EK :=
  match op with
  | .eql => some (.eq false t x y)
  | .neq => some (.eq true t x y)
  | _ => none

def lowBin (op : BinOp) (ti : TI) (x y : EArg) : Option EK :=
  match ti.desc with
  | .int _ | .string => some (.bin op x y)
  | .bool => eqK op x y .b
  | .pointer e => match L.size e with
    | some n => if n = 0 then none else eqK op x y .p
    | none => none
  | .slice _ => eqK op x y .s
  | .map _ _ => eqK op x y .m
  | .func _ _ _ => eqK op x y .f
  | .interface _ => eqK op x y .i
  | .struct fs => if ti.plain then (match cellKs L fs.toList 0 with | some ks => eqK op x y (.a ks) | none => none) else none
  | _ => none

def lowOp (op : Op) : Option EK :=
  match op with
  | .move x | .assign x => (lowArg L x).map .mov
  | .pick c a b => match lowArg L c, lowArg L a, lowArg L b with
    | some c, some a, some b => some (.pick c a b)
    | _, _, _ => none
  | .alloc e => (L.zeroCells e).map (.alloc e)
  | .box e x => (lowArg L x).map (.box e)
  | .build t parts => match L.desc t, L.zeroCells t with
    | some (.struct fs), some z => if fs.toList.all (fun f => (L.size f.type).isSome) then (lowParts L (fieldPlaces L fs) parts.toList).map (.build z) else none
    | some (.array _ e), some z => match L.size e with
      | some n => (lowParts L (fun i => some (i * n, n)) parts.toList).map (.build z)
      | none => none
    | _, _ => none
  | .buildSlice t len parts => match L.desc t with
    | some (.slice e) => match L.ty e, L.zeroCells e with
      | some ei, some z =>
        if ei.size = 0 ∨ z.length ≠ ei.size ∨ len * ei.size > 2 ^ 20 then none else
        match lowParts L (fun i => some (i * ei.size, ei.size)) parts.toList with
        | some ps => if L.muty e then some (.bsliceM e ei.size len (List.replicate len z).flatten ps) else some (.bsliceV ei.size ei.agg len (List.replicate len z).flatten ps)
        | none => none
      | _, _ => none
    | _ => none
  | .load t a => match L.ty t, lowArg L a with
    | some ti, some a => some (.load ti.size ti.agg a)
    | _, _ => none
  | .store t a x => match L.ty t, lowArg L a, lowArg L x with
    | some ti, some a, some x => some (.store ti.size a x)
    | _, _, _ => none
  | .nilCheck x => (lowArg L x).map .nilc
  | .binOp op t x y _ => match L.ty t, lowArg L x, lowArg L y with
    | some ti, some x, some y => lowBin L op ti x y
    | _, _, _ => none
  | .unOp op _ x => (lowArg L x).map (.un op)
  | .convert src dst x => match lowArg L x with
    | some x => lowConvert L src dst x
    | none => none
  | .makeInterface t x => match L.desc t, lowArg L x with
    | some (.interface _), _ => none
    | some _, some x => some (.mkI t x)
    | _, _ => none
  | .makeFunc fn first cap => match lowArgs L first.toList, lowArgs L cap.toList with
    | some f, some c => some (.mkF fn f c)
    | _, _ => none
  | .makeMap _ none => some .mkM
  | .makeSlice t l c => match L.desc t with
    | some (.slice e) => match L.ty e, L.zeroCells e, lowArg L l, lowArg L c with
      | some ei, some z, some l, some c => if ei.size = 0 ∨ z.length ≠ ei.size then none else some (.mkS e ei.size ei.bytes (L.muty e) z l c)
      | _, _, _, _ => none
    | _ => none
  | .slice t x lo hi mx => match lowArg L x, lowOpt L lo, lowOpt L hi, lowOpt L mx with
    | some x, some lo, some hi, some mx => match L.desc t with
      | some .string => if mx.isNone then some (.slS x lo hi) else none
      | some (.slice e) => match L.size e with
        | some n => if n = 0 ∨ (mx.isSome ∧ hi.isNone) then none else some (.slV n x lo hi mx)
        | none => none
      | some (.array n e) => match L.size e with
        | some m => if m = 0 ∨ mx.isSome then none else some (.slA n m x lo hi)
        | none => none
      | _ => none
    | _, _, _, _ => none
  | .fieldAddr t x f => match L.desc t, lowArg L x with
    | some (.struct fs), some x => match fs[f]? with
      | some fd => match L.size fd.type with
        | some n => if n = 0 then none else some (.addOff fd.offset x)
        | none => none
      | none => none
    | _, _ => none
  | .field t x f => match L.desc t, lowArg L x with
    | some (.struct fs), some x => match fs[f]? with
      | some fd => (L.ty fd.type).map fun ti => .fget fd.offset ti.size ti.agg x
      | none => none
    | _, _ => none
  | .indexAddr t x i => match lowArg L x, lowArg L i, L.desc t with
    | some x, some i, some (.slice e) => match L.size e with
      | some n => if n = 0 then none else some (.idxS n x i)
      | none => none
    | some x, some i, some (.array n e) => match L.size e with
      | some m => if m = 0 then none else some (.idxA n m x i)
      | none => none
    | _, _, _ => none
  | .index t x i => match lowArg L x, lowArg L i, L.desc t with
    | some x, some i, some .string => some (.idxStr x i)
    | some x, some i, some (.array n e) => (L.ty e).map fun ei => .idxArr n ei.size ei.agg x i
    | _, _, _ => none
  | .lookup t m k ok => match L.desc t, lowArg L m, lowArg L k with
    | some (.map kt e), some m, some k => match L.desc kt, (L.ty e).bind TI.zero with
      | some (.int _), some z => some (.lookup .i z ok m k)
      | some .string, some z => some (.lookup .s z ok m k)
      | _, _ => none
    | _, _, _ => none
  | .mapUpdate t m k v => match L.desc t, lowArg L m, lowArg L k, lowArg L v with
    | some (.map kt _), some m, some k, some v => match L.desc kt with
      | some (.int _) => some (.mapUpd .i m k v)
      | some .string => some (.mapUpd .s m k v)
      | _ => none
    | _, _, _, _ => none
  | .range t x => match L.desc t with
    | some .string => (lowArg L x).map .range
    | _ => none
  | .next x true => (lowArg L x).map .next
  | .typeAssert x _ t ok => match L.ty t, lowArg L x with
    | some ti, some x => match ti.desc with
      | .interface _ => none
      | _ => some (.assert t ti.zero ok x)
    | _, _ => none
  | .extract x i => (lowArg L x).map (.extr i)
  | .call c => lowCall L c
  | .defer c => match c.callee, lowArgs L c.args.toList with
    | .value f, some args => (lowArg L f).map fun f => .defer f args
    | _, _ => none
  | .panic x => (lowArg L x).map .panic
  | _ => none

def lowGuard (ops : Array Oper) : Option (Nat × Bool) → Option (Option (Nat × Bool))
  | none => some none
  | some (j, want) => match (ops[j]?).bind (·.dst) with
    | some t => some (some (t, want))
    | none => none

def lowOper (ops : Array Oper) (o : Oper) : Option EOp :=
  (lowGuard ops o.guard).map fun g => { dst := o.dst, guard := g, k := (lowOp L o.op).getD .bad }

def lowOpers (ops : Array Oper) : List Oper → Option (List EOp)
  | [] => some []
  | o :: rest => match lowOper L ops o, lowOpers ops rest with
    | some e, some es => some (e :: es)
    | _, _ => none

/-! Regions that draw their order. -/

def directs (o : Oper) : List Nat := (o.after.toList.filter (Region.binds .any)).map (·.on)

def unionL (a b : List Nat) : List Nat := b.foldl (fun s x => if s.contains x then s else x :: s) a

/-- What must have gone before each operation, by its number. -/
def befTbl (ops : List Oper) : List (List Nat) :=
  ops.foldl (fun acc o => acc ++ [(directs o).foldl (fun s e => unionL s (e :: acc.getD e [])) []]) []

def namesOf (e : EOp) : List Nat :=
  e.dst.toList ++ (match e.guard with | some (t, _) => [t] | none => []) ++ argsOf e.k
where
  one : EArg → List Nat | .t i => [i] | .k _ => []
  opt : Option EArg → List Nat | some x => one x | none => []
  argsOf : EK → List Nat
    | .mov x | .box _ x | .load _ _ x | .nilc x | .un _ x | .toInt _ x | .runeStr x | .strStr x | .strBytes _ x | .bytesStr x | .cast _ x | .mkI _ x | .addOff _ x | .fget _ _ _ x | .range x | .next x
    | .assert _ _ _ x | .extr _ x | .lenS x | .len x | .lenM x | .cap x | .clear _ _ x | .usd x | .panic x => one x
    | .pick a b c | .mapUpd _ a b c => one a ++ one b ++ one c
    | .alloc .. | .mkM | .lenK _ | .recover | .bad => []
    | .build _ ps | .bsliceV _ _ _ _ ps | .bsliceM _ _ _ _ ps => ps.flatMap fun p => one p.2.2
    | .store _ a b | .bin _ a b | .mkS _ _ _ _ _ a b | .idxS _ a b | .idxA _ _ a b | .idxStr a b | .idxArr _ _ _ a b | .lookup _ _ _ a b | .eq _ _ a b | .append _ _ _ _ _ a b | .appendStr _ _ a b | .copy _ _ a b | .copyStr a b
    | .delete _ a b | .us _ a b => one a ++ one b
    | .mkF _ a b => a.flatMap one ++ b.flatMap one
    | .slS x a b | .slA _ _ x a b => one x ++ opt a ++ opt b
    | .slV _ x a b c => one x ++ opt a ++ opt b ++ opt c
    | .maxmin _ x xs => one x ++ xs.flatMap one
    | .callf _ xs => xs.flatMap one
    | .callv x xs | .defer x xs => one x ++ xs.flatMap one

/-- The canonical order: what needs no new object and no later effect first; each effect with what it needs ahead of it; the rest. -/
def canonOrd (bef : List (List Nat)) (cls : List Cls) : List Nat :=
  let n := cls.length
  let c (i : Nat) : Cls := cls.getD i .w
  let b (i : Nat) : List Nat := bef.getD i []
  let adep (i : Nat) : Bool := c i == .a || (b i).any (fun j => c j == .a)
  let ws := (List.range n).filter (fun i => c i == .w)
  let ready (done : List Nat) : List Nat := (List.range n).filter fun i =>
    !done.contains i && c i != .w && !adep i && (b i).all (fun j => c j != .w || done.contains j)
  let step (done : List Nat) (w : Nat) : List Nat :=
    let done := done ++ ready done
    let done := done ++ (List.range n).filter (fun i => !done.contains i && c i != .w && (b w).contains i)
    done ++ [w]
  let done := ws.foldl step []
  done ++ (List.range n).filter (fun i => !done.contains i)

structure DrawFacts where
  ord : List Nat
  es : List EOp
  bef : List (List Nat)

/-- What the one order must keep: each operation once; each behind what it must follow; operations that share a slot one writes, in a fixed order; effects in a fixed order; a new object only where the next effect asks for it. -/
def drawOK (ops : List Oper) (bef : List (List Nat)) (ord : List Nat) (es : List EOp) : Bool :=
  let n := ops.length
  let b (i : Nat) : List Nat := bef.getD i []
  let oe := ord.zip es
  decide (ord.length = n) && decide (es.length = n) && (List.range n).all (fun i => ord.contains i) &&
  topo [] ord && late oe &&
  pairs oe fun x y =>
    (b y.1).contains x.1 ||
    ((match x.2.dst with | some d => !(namesOf y.2).contains d | none => true) && (match y.2.dst with | some d => !(namesOf x.2).contains d | none => true) &&
     !(x.2.k.cls == .w && y.2.k.cls == .w))
where
  topo (done : List Nat) : List Nat → Bool
    | [] => true
    | i :: rest => !done.contains i && (match ops[i]? with | some o => (directs o).all (fun j => done.contains j) | none => false) && topo (i :: done) rest
  pairs : List (Nat × EOp) → (Nat × EOp → Nat × EOp → Bool) → Bool
    | [], _ => true
    | x :: rest, f => rest.all (f x) && pairs rest f
  late : List (Nat × EOp) → Bool
    | [] => true
    | (i, e) :: rest => (!(e.k.cls == .a) || (match rest.find? (fun x => x.2.k.cls == .w) with | some (j, _) => (bef.getD j []).contains i | none => true)) && late rest

def lowDraw (ops : Array Oper) : Option (List DOp) :=
  let l := ops.toList
  match lowOpers L ops l with
  | none => none
  | some es0 =>
    let bef := befTbl l
    let ord := canonOrd bef (es0.map (·.k.cls))
    let es := ord.map fun i => es0.getD i default
    if drawOK l bef ord es then
      let oe := (ord.zip es).zipIdx
      some (oe.map fun ((i, e), p) =>
        let bi := bef.getD i []
        let un := oe.filter fun ((j, _), _) => j != i && !bi.contains j && !(bef.getD j []).contains i
        { op := e,
          panicOK := oe.all fun ((j, f), q) => q ≤ p || (bef.getD j []).contains i || (f.guard.isNone && match f.k with | .alloc .. | .mkM => true | _ => false),
          junk := un.filterMap fun ((_, f), _) => f.dst,
          wl := un.filterMap fun ((_, f), q) => if f.k.cls == .w then some q else none })
    else none

variable (ks : EC → List Bool)

/-- 'ks': which slots each round of a loop begins without (any will do). -/
def lowCode : Code → Option EC
  | .skip => some .skip
  | .region _ ops false => (lowOpers L ops ops.toList).map .ops
  | .region _ ops true => (lowDraw L ops).map .draw
  | .seq a b => match lowCode a, lowCode b with
    | some a, some b => some (.seq a b)
    | _, _ => none
  | .cond c a b => match lowArg L c, lowCode a, lowCode b with
    | some c, some a, some b => some (.cond c a b)
    | _, _, _ => none
  | .block id b => (lowCode b).map (.block id)
  | .loop b => (lowCode b).map fun b => .loop (ks b) b
  | .exit id => some (.exit id)
  | .scope b => (lowCode b).map .scope
  | .label l => some (.label l)
  | .goto l => some (.goto l)
  | .ret => some .ret
  | .rangeFunc .. => some .stop
  | .refuse _ => some .stop

def lowRes : List ResultVar → Option (List ERes)
  | [] => some []
  | .tmp t :: rest => (lowRes rest).map (.tmp t :: ·)
  | .cell a t :: rest => match L.ty t, lowRes rest with
    | some ti, some rs => some (.cell a ti.size ti.agg :: rs)
    | _, _ => none

def lowFn (ks : EC → List ERes → EC → List Bool) (f : Func) : Option EFn :=
  match f.body with
  | none => none
  | some b => match lowRes L f.results.toList with
    | some rs => match (match lowCode L (fun _ => []) b with | some e => lowCode L (ks e rs) b | none => none) with
      | some b => some { ntmps := f.ntmps, results := rs, body := b }
      | none => none
    | none => none

/-- Without any letting go. -/
def lowFn0 (f : Func) : Option EFn :=
  match f.body with
  | none => none
  | some b => match lowCode L (fun _ => []) b, lowRes L f.results.toList with
    | some b, some rs => some { ntmps := f.ntmps, results := rs, body := b }
    | _, _ => none
end
end GoE

/- How the evaluator's values and memory stand to the model's: what a value is, what memory holds, and what a step may change. No condition. -/
namespace GoE
open Go

structure Gh where
  imm : Nat → Nat → Option Value
  blk : Nat → Option Nat
  tok : Nat → Option (Nat × Nat × Nat)
  /-- of a row that was made to grow: how many elements its block has room for -/
  room : Nat → Option Nat
  /-- how many cells a type has -/
  sz : TypeId → Nat

structure Gh.le (G G' : Gh) : Prop where
  imm : ∀ b o v, G.imm b o = some v → G'.imm b o = some v
  blk : ∀ r b, G.blk r = some b → G'.blk r = some b
  tok : ∀ r x, G.tok r = some x → G'.tok r = some x
  room : ∀ b K, G.room b = some K → G'.room b = some K
  sz : G'.sz = G.sz

theorem Gh.le.refl (G : Gh) : G.le G := ⟨fun _ _ _ h => h, fun _ _ h => h, fun _ _ h => h, fun _ _ h => h, rfl⟩
theorem Gh.le.trans {A B C : Gh} (h : A.le B) (k : B.le C) : A.le C :=
  ⟨fun _ _ _ x => k.imm _ _ _ (h.imm _ _ _ x), fun _ _ x => k.blk _ _ (h.blk _ _ x), fun _ _ x => k.tok _ _ (h.tok _ _ x), fun _ _ x => k.room _ _ (h.room _ _ x), k.sz.trans h.sz⟩

inductive V (G : Gh) : AV → Value → Prop where
  | junk (v : Value) : V G .junk v
  | undef : V G .undef Go.undef
  | bool (b : Bool) : V G (.bool b) (.bool b)
  | int (k : IntKind) (n : Int) : V G (.int k n) (.int k n)
  | str (s : ByteArray) : V G (.str s.data.toList) (.string s)
  | nilptr : V G .nilptr (.pointer none)
  | ptr (r off b : Nat) (h : G.blk r = some b) : V G (.ptr r off) (.pointer (some ⟨b, off, none⟩))
  | iptr (cells : List AV) (off b o : Nat) (vs : List Value) (hl : vs.length = cells.length) (hi : ∀ (i : Nat) (v : Value), vs[i]? = some v → G.imm b (o + i) = some v)
      (hv : ∀ (i : Nat) (c : AV) (v : Value), cells[i]? = some c → vs[i]? = some v → V G c v) (h1 : ∀ (i : Nat) (v : Value), vs[i]? = some v → v.oneCell' = true) : V G (.iptr cells off) (.pointer (some ⟨b, o + off, none⟩))
  | tptr (r : Nat) (cells : List AV) (b o k : Nat) (vs : List Value) (hl : vs.length = cells.length) (ht : G.tok r = some (b, o + cells.length, k))
      (hi : ∀ (i : Nat) (v : Value), vs[i]? = some v → G.imm b (o + i) = some v) (hv : ∀ (i : Nat) (c : AV) (v : Value), cells[i]? = some c → vs[i]? = some v → V G c v) (h1 : ∀ (i : Nat) (v : Value), vs[i]? = some v → v.oneCell' = true) : V G (.tptr r cells) (.pointer (some ⟨b, o, none⟩))
  | nilslice : V G .nilslice (.slice none 0 0)
  | slice (sz : Nat) (t : Tok) (es : List AV) (b o cap : Nat) (vs : List Value) (hsz : 0 < sz) (hes : ∀ e, e ∈ es → e.cells.length = sz)
      (hl : vs.length = (es.flatMap AV.cells).length) (hi : ∀ (i : Nat) (v : Value), vs[i]? = some v → G.imm b (o + i) = some v)
      (hv : ∀ (i : Nat) (c : AV) (v : Value), (es.flatMap AV.cells)[i]? = some c → vs[i]? = some v → V G c v) (h1 : ∀ (i : Nat) (v : Value), vs[i]? = some v → v.oneCell' = true) (hcap : es.length ≤ cap) (hx : t = .exact → cap = es.length)
      (ht : ∀ n, t = .id n → (es.length = 0 ∧ cap = 0) ∨ G.tok n = some (b, o + es.length * sz, o + cap * sz)) : V G (.slice sz t es) (.slice (some ⟨b, o, none⟩) es.length cap)
  | arr (r off len cap : Nat) (co : Option Nat) (b off' : Nat) (h : G.blk r = some b) (hc : ∀ c, co = some c → c = cap) (hcap : len ≤ cap) (ho : off' = off ∨ cap = 0)
      (hk : co = none → ∃ K, G.room b = some K ∧ (off' = 0 → cap ≤ K)) : V G (.arr r off len co) (.slice (some ⟨b, off', none⟩) len cap)
  | map (r b : Nat) (h : G.blk r = some b) : V G (.map r) (.map (some b))
  | nilmap : V G .nilmap (.map none)
  | func (fn : Fn) (f c : List AV) (f' c' : Array Value) (hf : f'.size = f.length) (hc : c'.size = c.length) (h1 : ∀ (i : Nat) (a : AV) (v : Value), f[i]? = some a → f'[i]? = some v → V G a v)
      (h2 : ∀ (i : Nat) (a : AV) (v : Value), c[i]? = some a → c'[i]? = some v → V G a v) : V G (.func fn f c) (.func fn f' c')
  | nilFunc : V G .nilFunc .nilFunc
  | iface (t : TypeId) (a : AV) (v : Value) (h : V G a v) : V G (.iface t a) (.iface t v)
  | nilIface : V G .nilIface .nilIface
  | agg (cs : List AV) (vs : Array Value) (hl : vs.size = cs.length) (h : ∀ (i : Nat) (c : AV) (v : Value), cs[i]? = some c → vs[i]? = some v → V G c v)
      (h1 : ∀ (i : Nat) (v : Value), vs[i]? = some v → v.oneCell' = true) : V G (.agg cs) (.agg vs)
  | tuple (cs : List AV) (vs : Array Value) (hl : vs.size = cs.length) (h : ∀ (i : Nat) (c : AV) (v : Value), cs[i]? = some c → vs[i]? = some v → V G c v) : V G (.tuple cs) (.tuple vs)

theorem V.mono {G G' : Gh} (hle : G.le G') {a : AV} {v : Value} (h : V G a v) : V G' a v := by
  induction h with
  | junk v => exact .junk v
  | undef => exact .undef
  | bool b => exact .bool b
  | int k n => exact .int k n
  | str s => exact .str s
  | nilptr => exact .nilptr
  | ptr r off b h => exact .ptr r off b (hle.blk _ _ h)
  | iptr cells off b o vs hl hi _ h1 ih => exact .iptr cells off b o vs hl (fun i v h => hle.imm _ _ _ (hi i v h)) ih h1
  | tptr r cells b o k vs hl ht hi _ h1 ih => exact .tptr r cells b o k vs hl (hle.tok _ _ ht) (fun i v h => hle.imm _ _ _ (hi i v h)) ih h1
  | nilslice => exact .nilslice
  | slice sz t es b o cap vs hsz hes hl hi _ h1 hcap hx ht ih => exact .slice sz t es b o cap vs hsz hes hl (fun i v h => hle.imm _ _ _ (hi i v h)) ih h1 hcap hx (fun n hn => (ht n hn).imp id (hle.tok _ _))
  | arr r off len cap co b off' h hc hcap ho hk => exact .arr r off len cap co b off' (hle.blk _ _ h) hc hcap ho (fun e => let ⟨K, h1, h2⟩ := hk e; ⟨K, hle.room _ _ h1, h2⟩)
  | map r b h => exact .map r b (hle.blk _ _ h)
  | nilmap => exact .nilmap
  | func fn f c f' c' hf hc _ _ ih1 ih2 => exact .func fn f c f' c' hf hc ih1 ih2
  | nilFunc => exact .nilFunc
  | iface t a v _ ih => exact .iface t a v ih
  | nilIface => exact .nilIface
  | agg cs vs hl _ h1 ih => exact .agg cs vs hl ih h1
  | tuple cs vs hl _ ih => exact .tuple cs vs hl ih

/-- A list of values, one by one. -/
def VL (G : Gh) (cs : List AV) (vs : List Value) : Prop := vs.length = cs.length ∧ ∀ (i : Nat) (c : AV) (v : Value), cs[i]? = some c → vs[i]? = some v → V G c v

theorem VL.nil (G : Gh) : VL G [] [] := ⟨rfl, fun i c v h => by simp at h⟩
theorem VL.cons {G : Gh} {c : AV} {v : Value} {cs : List AV} {vs : List Value} (h : V G c v) (hs : VL G cs vs) : VL G (c :: cs) (v :: vs) := by
  refine ⟨by simp [hs.1], fun i x y hx hy => ?_⟩
  cases i with
  | zero => simp at hx hy; subst hx; subst hy; exact h
  | succ i => simp at hx hy; exact hs.2 i x y hx hy
theorem VL.head {G : Gh} {c : AV} {v : Value} {cs : List AV} {vs : List Value} (h : VL G (c :: cs) (v :: vs)) : V G c v := h.2 0 c v (by simp) (by simp)
theorem VL.tail {G : Gh} {c : AV} {v : Value} {cs : List AV} {vs : List Value} (h : VL G (c :: cs) (v :: vs)) : VL G cs vs :=
  ⟨by have := h.1; simpa using this, fun i x y hx hy => h.2 (i + 1) x y (by simpa using hx) (by simpa using hy)⟩
theorem VL.nil_inv {G : Gh} {vs : List Value} (h : VL G [] vs) : vs = [] := List.length_eq_zero_iff.1 (by simpa using h.1)
theorem VL.cons_inv {G : Gh} {c : AV} {cs : List AV} {vs : List Value} (h : VL G (c :: cs) vs) : ∃ v ws, vs = v :: ws ∧ V G c v ∧ VL G cs ws := by
  cases vs with
  | nil => have := h.1; simp at this
  | cons v ws => exact ⟨v, ws, rfl, h.head, h.tail⟩
theorem VL.mono {G G' : Gh} (hle : G.le G') {cs : List AV} {vs : List Value} (h : VL G cs vs) : VL G' cs vs := ⟨h.1, fun i c v a b => (h.2 i c v a b).mono hle⟩
theorem VL.append {G : Gh} {cs ds : List AV} {vs ws : List Value} (h : VL G cs vs) (k : VL G ds ws) : VL G (cs ++ ds) (vs ++ ws) := by
  refine ⟨by simp [h.1, k.1], fun i c v hc hv => ?_⟩
  by_cases hi : i < cs.length
  · rw [List.getElem?_append_left hi] at hc
    rw [List.getElem?_append_left (by rw [h.1]; exact hi)] at hv
    exact h.2 i c v hc hv
  · rw [List.getElem?_append_right (by omega)] at hc
    rw [List.getElem?_append_right (by rw [h.1]; omega), h.1] at hv
    exact k.2 _ c v hc hv
theorem VL.drop {G : Gh} {cs : List AV} {vs : List Value} (h : VL G cs vs) (n : Nat) : VL G (cs.drop n) (vs.drop n) :=
  ⟨by simp [h.1], fun i c v hc hv => h.2 (n + i) c v (by simpa using hc) (by simpa using hv)⟩
theorem VL.take {G : Gh} {cs : List AV} {vs : List Value} (h : VL G cs vs) (n : Nat) : VL G (cs.take n) (vs.take n) := by
  refine ⟨by simp [h.1], fun i c v hc hv => ?_⟩
  rw [List.getElem?_take] at hc hv
  split at hc
  · rename_i hi
    simp only [hi, if_true] at hv
    exact h.2 i c v hc hv
  · cases hc
theorem VL.set {G : Gh} {cs : List AV} {vs : List Value} (h : VL G cs vs) {c : AV} {v : Value} (hv : V G c v) (n : Nat) : VL G (cs.set n c) (vs.set n v) := by
  refine ⟨by simp [h.1], fun i x y hx hy => ?_⟩
  by_cases e : n = i
  · subst e
    rw [List.getElem?_set_self' ] at hx hy
    cases h1 : cs[n]? with
    | none => simp [h1] at hx
    | some _ =>
      cases h2 : vs[n]? with
      | none => simp [h2] at hy
      | some _ => simp [h1] at hx; simp [h2] at hy; subst hx; subst hy; exact hv
  · rw [List.getElem?_set_ne e] at hx hy
    exact h.2 i x y hx hy
theorem VL.get {G : Gh} {cs : List AV} {vs : List Value} (h : VL G cs vs) {i : Nat} {c : AV} (hc : cs[i]? = some c) : ∃ v, vs[i]? = some v ∧ V G c v := by
  have hi : i < vs.length := by
    rw [h.1]
    exact (List.getElem?_eq_some_iff.1 hc).1
  exact ⟨vs[i], List.getElem?_eq_getElem hi, h.2 i c _ hc (List.getElem?_eq_getElem hi)⟩

/-- One object of the evaluator's memory, as a block holds it. -/
def ObjRel (G : Gh) (ob : HObj) (o : Obj) : Prop :=
  match ob with
  | .cells e c => ∃ vs lo hi, o = .cells vs e (lo, hi) ∧ c.length ≤ vs.size ∧ (∀ (i : Nat) (x : AV) (v : Value), c[i]? = some x → vs[i]? = some v → V G x v ∧ v.oneCell' = true) ∧ (c.length ≤ lo ∨ hi ≤ lo)
  | .mapo es => ∃ (ms : Array MapEntry) (clock : Nat), o = .map ms clock ∧ ms.size = es.length ∧ ∀ (i : Nat) (x : MEnt) (m : MapEntry), es[i]? = some x → ms[i]? = some m → V G x.key m.key ∧ V G x.val m.val
  | .iter l pos => ∃ s : ByteArray, o = .stringIter s pos ∧ s.data.toList = l
  | .tok .. => False

theorem ObjRel.mono {G G' : Gh} (hle : G.le G') {ob : HObj} {o : Obj} (h : ObjRel G ob o) : ObjRel G' ob o := by
  cases ob with
  | cells e c => obtain ⟨vs, lo, hi, h1, h2, h3, h4⟩ := h; exact ⟨vs, lo, hi, h1, h2, fun i x v a b => ⟨(h3 i x v a b).1.mono hle, (h3 i x v a b).2⟩, h4⟩
  | mapo es => obtain ⟨ms, clock, h1, h2, h3⟩ := h; exact ⟨ms, clock, h1, h2, fun i x m a b => ⟨(h3 i x m a b).1.mono hle, (h3 i x m a b).2.mono hle⟩⟩
  | iter l pos => exact h
  | tok _ _ => exact h

def HObj.isTok : HObj → Bool
  | .tok .. => true
  | _ => false

structure Inv (G : Gh) (s : St) (w : World) : Prop where
  imm : ∀ b o v, G.imm b o = some v → w.cell? ⟨b, o, none⟩ = some v
  obj : ∀ r ob, s.heap.get r = some ob → ob.isTok = false → ∃ b o, G.blk r = some b ∧ w.heap[b]? = some o ∧ ObjRel G ob o
  tok : ∀ r el0, s.heap.get r = some (.tok el0 false) → ∃ b e k vs el lo hi, G.tok r = some (b, e, k) ∧ w.heap[b]? = some (.cells vs el (lo, hi)) ∧ k ≤ vs.size ∧ e ≤ k ∧
    hi ≤ e ∧ (∀ o, e ≤ o → G.imm b o = none)
  tokEl : ∀ r el x b e k, s.heap.get r = some (.tok el x) → G.tok r = some (b, e, k) → ∃ vs f, w.heap[b]? = some (.cells vs el f)
  blkInj : ∀ r q b, s.heap.get r ≠ none → s.heap.get q ≠ none → G.blk r = some b → G.blk q = some b → r = q
  blkImm : ∀ r b o, G.blk r = some b → G.imm b o = none
  blkTok : ∀ r q b e k, G.blk r = some b → G.tok q = some (b, e, k) → False
  tokSep : ∀ r q b e k e' k' t u, s.heap.get r = some (.tok t false) → s.heap.get q = some (.tok u false) → G.tok r = some (b, e, k) → G.tok q = some (b, e', k') → r = q
  tokTop : ∀ r q b e k e' k' t, s.heap.get r = some (.tok t false) → G.tok r = some (b, e, k) → G.tok q = some (b, e', k') → e' ≤ e
  fresh : ∀ r, s.next ≤ r → s.heap.get r = none ∧ G.blk r = none ∧ G.tok r = none
  blkLt : ∀ r b, G.blk r = some b → b < w.heap.size
  tokLt : ∀ r b e k, G.tok r = some (b, e, k) → b < w.heap.size
  room : ∀ b K, G.room b = some K → (∃ vs el lo hi, w.heap[b]? = some (.cells vs el (lo, hi)) ∧ K * G.sz el ≤ vs.size ∧ (K * G.sz el ≤ lo ∨ hi ≤ lo)) ∧ ∀ r e k, G.tok r ≠ some (b, e, k)

/-- What is neither an object that the evaluator holds nor a row that it appends to is as it was. -/
structure Kept (G : Gh) (s : St) (w w' : World) : Prop where
  size : w.heap.size ≤ w'.heap.size
  os : w'.os = w.os
  tape : w'.tape = w.tape
  output : w'.output = w.output
  block : ∀ b, b < w.heap.size → (∀ r, G.blk r = some b → s.heap.get r = none) → (∀ r e k, G.tok r ≠ some (b, e, k)) → w'.heap[b]? = w.heap[b]?

structure Post (G : Gh) (s : St) (w : World) (G' : Gh) (s' : St) (w' : World) : Prop where
  le : G.le G'
  inv : Inv G' s' w'
  kept : Kept G s w w'
  newBlk : ∀ r b, G'.blk r = some b → G.blk r = some b ∨ (s.next ≤ r ∧ ((∃ q, G.blk q = some b ∧ s.heap.get q ≠ none) ∨ w.heap.size ≤ b))
  newTok : ∀ r b e k, G'.tok r = some (b, e, k) → (∃ q e' k', G.tok q = some (b, e', k')) ∨ w.heap.size ≤ b
  next : s.next ≤ s'.next
  noRes : ∀ r, r < s.next → s.heap.get r = none → s'.heap.get r = none
  newImm : ∀ b o v, G'.imm b o = some v → b < w.heap.size → (∀ r e k, G.tok r ≠ some (b, e, k)) → G.imm b o = some v

theorem Kept.refl (G : Gh) (s : St) (w : World) : Kept G s w w := ⟨Nat.le_refl _, rfl, rfl, rfl, fun _ _ _ _ => rfl⟩

theorem Post.refl {G : Gh} {s : St} {w : World} (h : Inv G s w) : Post G s w G s w :=
  ⟨Gh.le.refl G, h, Kept.refl G s w, fun _ _ h => .inl h, fun r _ e k h => .inl ⟨r, e, k, h⟩, Nat.le_refl _, fun _ _ h => h, fun _ _ _ h _ _ => h⟩

theorem Post.trans {G1 G2 G3 : Gh} {s1 s2 s3 : St} {w1 w2 w3 : World} (hi : Inv G1 s1 w1) (h : Post G1 s1 w1 G2 s2 w2) (k : Post G2 s2 w2 G3 s3 w3) : Post G1 s1 w1 G3 s3 w3 := by
  have lt1 : ∀ r b, G1.blk r = some b → r < s1.next := fun r b hb => by
    rcases Nat.lt_or_ge r s1.next with h' | h'
    · exact h'
    · have := (hi.fresh r h').2.1; rw [this] at hb; cases hb
  have un2 : ∀ b, b < w1.heap.size → (∀ r, G1.blk r = some b → s1.heap.get r = none) → ∀ r, G2.blk r = some b → s2.heap.get r = none := by
    intro b hb hun r hr
    rcases h.newBlk r b hr with h1 | ⟨_, ⟨q, hq, hqs⟩ | h1⟩
    · exact h.noRes r (lt1 r b h1) (hun r h1)
    · exact absurd (hun q hq) hqs
    · omega
  have nt2 : ∀ b, b < w1.heap.size → (∀ r e k, G1.tok r ≠ some (b, e, k)) → ∀ r e k, G2.tok r ≠ some (b, e, k) := by
    intro b hb hun r e k' hr
    rcases h.newTok r b e k' hr with ⟨q, e', k'', hq⟩ | h1
    · exact hun q e' k'' hq
    · omega
  refine ⟨h.le.trans k.le, k.inv, ⟨Nat.le_trans h.kept.size k.kept.size, k.kept.os.trans h.kept.os, k.kept.tape.trans h.kept.tape, k.kept.output.trans h.kept.output, ?_⟩, ?_, ?_, Nat.le_trans h.next k.next, ?_, fun b o v hv hb hnt => h.newImm b o v (k.newImm b o v hv (Nat.lt_of_lt_of_le hb h.kept.size) (nt2 b hb hnt)) hb hnt⟩
  · intro b hb hun hnt
    rw [k.kept.block b (Nat.lt_of_lt_of_le hb h.kept.size) (un2 b hb hun) (nt2 b hb hnt), h.kept.block b hb hun hnt]
  · intro r b hr
    rcases k.newBlk r b hr with h1 | ⟨hn, ⟨q, hq, hqs⟩ | h1⟩
    · exact h.newBlk r b h1
    · have hn1 := Nat.le_trans h.next hn
      rcases h.newBlk q b hq with h2 | ⟨_, h2 | h2⟩
      · exact .inr ⟨hn1, .inl ⟨q, h2, fun h0 => hqs (h.noRes q (lt1 q b h2) h0)⟩⟩
      · exact .inr ⟨hn1, .inl h2⟩
      · exact .inr ⟨hn1, .inr h2⟩
    · exact .inr ⟨Nat.le_trans h.next hn, .inr (Nat.le_trans h.kept.size h1)⟩
  · intro r b e k' hr
    rcases k.newTok r b e k' hr with ⟨q, e', k'', hq⟩ | h1
    · exact h.newTok q b e' k'' hq
    · exact .inr (Nat.le_trans h.kept.size h1)
  · intro r hr h0
    exact k.noRes r (Nat.lt_of_lt_of_le hr h.next) (h.noRes r hr h0)

end GoE

/- One operation of the model does what the evaluator says: the set-up, operands, and what touches no memory. No condition. -/
namespace GoE
open Go

theorem Addr_add (b o n : Nat) : (Addr.mk b o none).add n = ⟨b, o + n, none⟩ := by
  unfold Addr.add
  split
  · rename_i h; subst h; rfl
  · rfl

theorem tget_eq (l : List AV) (n : Nat) : tget l n = (l[n]?).getD .undef := by simp [tget, lget_eq]

/-- Slots, one by one. -/
def Tm (G : Gh) (tmps : List AV) (a : Array Value) : Prop := ∀ t, V G (tget tmps t) (a.getD t Go.undef)

theorem Tm.mono {G G' : Gh} (h : G.le G') {tmps : List AV} {a : Array Value} (k : Tm G tmps a) : Tm G' tmps a := fun t => (k t).mono h

def GlOK (L : Low) (G : Gh) : Prop := (∀ g a, L.gl g = some a → V G a (.pointer (some ⟨g, 0, none⟩))) ∧ (∀ g, g ∈ L.ints → ∃ m, G.imm g 0 = some (.int .i64 m)) ∧ ∀ e ti, L.ty e = some ti → G.sz e = ti.size

theorem GlOK.mono {L : Low} {G G' : Gh} (h : G.le G') (k : GlOK L G) : GlOK L G' := ⟨fun g a e => (k.1 g a e).mono h, fun g hg => let ⟨m, hm⟩ := k.2.1 g hg; ⟨m, h.imm _ _ _ hm⟩, fun e ti he => by rw [h.sz]; exact k.2.2 e ti he⟩

def isAggD : TypeDesc → Bool
  | .struct _ | .array _ _ => true
  | _ => false

structure TyOK (P : Program) (ti : TI) (t : Nat) (i : TypeInfo) : Prop where
  info : P.info? t = some i
  size : i.size = ti.size
  bytes : i.bytes = ti.bytes
  desc : P.underlying t = some ti.desc
  agg : ti.agg = isAggD ti.desc
  zero : ∀ z, ti.zero = some z → ∃ v, i.zero = some v ∧ ofValue v = some z
  one : ti.agg = false → ti.size = 1
  zsize : ∀ v, i.zero = some v → v.cells.size = ti.size
  plain : ti.plain = true → P.eqGuardType P.depth t = false ∧ P.stoodInHeld t = false

structure LowOK (P : Program) (L : Low) : Prop where
  ty : ∀ t ti, L.ty t = some ti → ∃ i, TyOK P ti t i
  /-- equality on a type that is told plain: field by field, with no stand-in -/
  mixed : P.follows .mixedOrders = true
  lies : ∀ t e n o, (e, n, o) ∈ L.lies t → P.cellsOf e = n ∧ o < n ∧ liesAt P P.depth e 1 o t 1 = true

theorem one_cell {G : Gh} {a : AV} {v : Value} (h : V G a v) (h1 : a.one = true) : v.oneCell' = true := by
  cases h <;> first | rfl | (simp [AV.one] at h1)

mutual
theorem ofValue_sound (G : Gh) : ∀ (v : Value) (a : AV), ofValue v = some a → V G a v
  | .bool b, a, h => by simp only [ofValue, Option.some.injEq] at h; subst h; exact .bool b
  | .int k n, a, h => by simp only [ofValue, Option.some.injEq] at h; subst h; exact .int k n
  | .string s, a, h => by simp only [ofValue, Option.some.injEq] at h; subst h; exact .str s
  | .pointer none, a, h => by simp only [ofValue, Option.some.injEq] at h; subst h; exact .nilptr
  | .pointer (some _), a, h => by simp [ofValue] at h
  | .slice none l c, a, h => by
    cases l with
    | succ l => simp [ofValue] at h
    | zero =>
      cases c with
      | succ c => simp [ofValue] at h
      | zero => simp only [ofValue, Option.some.injEq] at h; subst h; exact .nilslice
  | .slice (some _) _ _, a, h => by simp [ofValue] at h
  | .map none, a, h => by simp only [ofValue, Option.some.injEq] at h; subst h; exact .nilmap
  | .map (some _), a, h => by simp [ofValue] at h
  | .nilFunc, a, h => by simp only [ofValue, Option.some.injEq] at h; subst h; exact .nilFunc
  | .nilIface, a, h => by simp only [ofValue, Option.some.injEq] at h; subst h; exact .nilIface
  | .func fn ⟨f⟩ ⟨c⟩, a, h => by
    cases f with
    | cons x y => simp [ofValue] at h
    | nil =>
      cases c with
      | cons x y => simp [ofValue] at h
      | nil =>
        simp only [ofValue, Option.some.injEq] at h
        subst h
        exact .func fn [] [] #[] #[] rfl rfl (fun i a v h => by simp at h) (fun i a v h => by simp at h)
  | .agg ⟨cs⟩, a, h => by
    simp only [ofValue] at h
    cases hl : ofValueL cs with
    | none => simp [hl] at h
    | some l =>
      simp only [hl] at h
      split at h
      · rename_i hall
        simp only [Option.some.injEq] at h
        subst h
        have hs := ofValueL_sound G cs l hl
        refine .agg l ⟨cs⟩ (by simpa using hs.1) (fun i c v hc hv => hs.2 i c v hc (by simpa using hv)) (fun i v hv => ?_)
        have hv' : cs[i]? = some v := by simpa using hv
        have hi : i < l.length := by rw [← hs.1]; exact (List.getElem?_eq_some_iff.1 hv').1
        exact one_cell (hs.2 i l[i] v (List.getElem?_eq_getElem hi) hv') (List.all_eq_true.1 hall _ (List.getElem_mem hi))
      · cases h
  | .tuple ⟨cs⟩, a, h => by
    cases cs with
    | cons x y => simp [ofValue] at h
    | nil => simp only [ofValue, Option.some.injEq] at h; subst h; exact .undef
  | .float _ _, a, h => by simp [ofValue] at h
  | .complex _ _ _, a, h => by simp [ofValue] at h
  | .chan _, a, h => by simp [ofValue] at h
  | .iface _ _, a, h => by simp [ofValue] at h
theorem ofValueL_sound (G : Gh) : ∀ (vs : List Value) (l : List AV), ofValueL vs = some l → VL G l vs
  | [], l, h => by simp only [ofValueL, Option.some.injEq] at h; subst h; exact VL.nil G
  | v :: vs, l, h => by
    simp only [ofValueL] at h
    cases h1 : ofValue v with
    | none => simp [h1] at h
    | some x =>
      cases h2 : ofValueL vs with
      | none => simp [h1, h2] at h
      | some xs =>
        simp only [h1, h2, Option.some.injEq] at h
        subst h
        exact VL.cons (ofValue_sound G v x h1) (ofValueL_sound G vs xs h2)
end
end GoE

/- What a step may do to memory, in lemmas: a draw; a new block; an object written; an object made; a row begun, and grown. No condition. -/
namespace GoE
open Go

theorem St.get_upd (s : St) (r : Nat) (o : HObj) (q : Nat) : (s.upd r o).heap.get q = if q = r then some o else s.heap.get q := Tr.get_set _ _ _ _
theorem St.get_del (s : St) (r : Nat) (q : Nat) : (s.del r).heap.get q = if q = r then none else s.heap.get q := Tr.get_set _ _ _ _
theorem St.get_alloc (s : St) (o : HObj) (q : Nat) : (s.alloc o).heap.get q = if q = s.next then some o else s.heap.get q := Tr.get_set _ _ _ _
theorem St.next_upd (s : St) (r : Nat) (o : HObj) : (s.upd r o).next = s.next := rfl
theorem St.next_del (s : St) (r : Nat) : (s.del r).next = s.next := rfl
theorem St.next_alloc (s : St) (o : HObj) : (s.alloc o).next = s.next + 1 := rfl

/-- A block laid anew. -/
def setBlk (w : World) (b : Nat) (o : Obj) : World := { w with heap := w.heap.setIfInBounds b o }

theorem setBlk_size (w : World) (b : Nat) (o : Obj) : (setBlk w b o).heap.size = w.heap.size := by simp [setBlk]
theorem setBlk_same (w : World) (b : Nat) (o : Obj) (h : b < w.heap.size) : (setBlk w b o).heap[b]? = some o := by simp [setBlk, h]
theorem setBlk_other (w : World) (b c : Nat) (o : Obj) (h : c ≠ b) : (setBlk w b o).heap[c]? = w.heap[c]? := by
  simp [setBlk, Array.getElem?_setIfInBounds_ne (Ne.symm h)]
theorem setBlk_setBlk (w : World) (b : Nat) (o p : Obj) : setBlk (setBlk w b o) b p = setBlk w b p := by simp [setBlk]
theorem setBlk_self (w : World) (b : Nat) (o : Obj) (h : w.heap[b]? = some o) : setBlk w b o = w := by
  unfold setBlk
  have : w.heap.setIfInBounds b o = w.heap := by
    apply Array.ext_getElem?
    intro i
    by_cases e : b = i
    · subst e
      have hb : b < w.heap.size := (Array.getElem?_eq_some_iff.1 h).1
      simp [hb]
      exact (Array.getElem?_eq_some_iff.1 h).2.symm
    · rw [Array.getElem?_setIfInBounds_ne e]
  rw [this]

theorem lt_of_blk {w : World} {b : Nat} {o : Obj} (h : w.heap[b]? = some o) : b < w.heap.size := (Array.getElem?_eq_some_iff.1 h).1

theorem cell_of_blk {w w' : World} {b o : Nat} (h : w'.heap[b]? = w.heap[b]?) : w'.cell? ⟨b, o, none⟩ = w.cell? ⟨b, o, none⟩ := by simp [World.cell?, h]

theorem cell_cells {w : World} {b o : Nat} {vs : Array Value} {e : TypeId} {f : Nat × Nat} (h : w.heap[b]? = some (.cells vs e f)) : w.cell? ⟨b, o, none⟩ = vs[o]? := by simp [World.cell?, h]

theorem frozen_cells {w : World} {b o : Nat} {vs : Array Value} {e : TypeId} {lo hi : Nat} (h : w.heap[b]? = some (.cells vs e (lo, hi))) :
    w.frozen? ⟨b, o, none⟩ = (decide (lo ≤ o) && decide (o < hi)) := by simp [World.frozen?, h]

theorem setCell_blk {w : World} {b o : Nat} {vs : Array Value} {e : TypeId} {f : Nat × Nat} (h : w.heap[b]? = some (.cells vs e f)) (v : Value) :
    w.setCell ⟨b, o, none⟩ v = setBlk w b (.cells (vs.setIfInBounds o v) e f) := by
  have hb := lt_of_blk h
  unfold World.setCell setBlk
  congr 1
  apply Array.ext_getElem?
  intro i
  rw [Array.getElem?_modify]
  by_cases ei : b = i
  · subst ei
    simp [hb]
    have := (Array.getElem?_eq_some_iff.1 h).2
    rw [this]
  · rw [if_neg ei, Array.getElem?_setIfInBounds_ne ei]

/-- Cells laid one behind the other. -/
def arrSet (cur : Array Value) (o : Nat) : List Value → Array Value
  | [] => cur
  | v :: vs => arrSet (cur.setIfInBounds o v) (o + 1) vs

theorem arrSet_size : ∀ (vs : List Value) (cur : Array Value) (o : Nat), (arrSet cur o vs).size = cur.size
  | [], _, _ => rfl
  | v :: vs, cur, o => by rw [arrSet, arrSet_size]; simp

theorem arrSet_get : ∀ (vs : List Value) (cur : Array Value) (o i : Nat), (arrSet cur o vs)[i]? = if o ≤ i ∧ i < o + vs.length ∧ i < cur.size then vs[i - o]? else cur[i]?
  | [], cur, o, i => by rw [arrSet, if_neg (by simp; omega)]
  | v :: vs, cur, o, i => by
    rw [arrSet, arrSet_get vs _ (o + 1) i]
    by_cases h : o + 1 ≤ i ∧ i < o + 1 + vs.length ∧ i < cur.size
    · rw [if_pos (by simpa using h), if_pos (by simp; omega)]
      obtain ⟨k, hk⟩ : ∃ k, i - o = k + 1 := ⟨i - o - 1, by omega⟩
      rw [hk, show i - (o + 1) = k by omega]
      simp
    · rw [if_neg (by simpa using h)]
      by_cases e : i = o
      · subst e
        by_cases hl : i < cur.size
        · rw [if_pos (by simp; omega)]
          simp [hl]
        · rw [if_neg (by omega)]
          simp [hl]
      · rw [Array.getElem?_setIfInBounds_ne (Ne.symm e), if_neg (by simp at h ⊢; omega)]

theorem run_storeCells_blk {P : Program} (b o : Nat) (e : TypeId) (lo hi : Nat) : ∀ (vs : List Value) (i : Nat) (w : World) (cur : Array Value), w.heap[b]? = some (.cells cur e (lo, hi)) →
    o + i + vs.length ≤ cur.size → (∀ j, j < vs.length → ¬ (lo ≤ o + i + j ∧ o + i + j < hi)) → (∀ v ∈ vs, v.oneCell' = true) →
    (storeCells ⟨b, o, none⟩ vs i).run P w = .ok () (setBlk w b (.cells (arrSet cur (o + i) vs) e (lo, hi)))
  | [], i, w, cur, h, _, _, _ => by
    simp [storeCells, arrSet, setBlk_self w b _ h]
  | v :: vs, i, w, cur, h, hl, hf, h1 => by
    have hlt : o + i < cur.size := by simp at hl; omega
    have hst : (store ((⟨b, o, none⟩ : Addr).add i) v).run P w = .ok () (setBlk w b (.cells (cur.setIfInBounds (o + i) v) e (lo, hi))) := by
      rw [Addr_add, run_store P w _ v _ (h1 v (by simp)), cell_cells h, frozen_cells h]
      have h0 := hf 0 (by simp)
      simp only [Nat.add_zero] at h0
      have : (decide (lo ≤ o + i) && decide (o + i < hi)) = false := by simp; omega
      simp [hlt, this, setCell_blk h]
    have hb := lt_of_blk h
    simp only [storeCells, Sem.run_bind, hst, Result.andThen_ok]
    rw [run_storeCells_blk b o e lo hi vs (i + 1) _ (cur.setIfInBounds (o + i) v) (setBlk_same _ _ _ hb) (by simp at hl ⊢; omega)
      (fun j hj => by have := hf (j + 1) (by simp; omega); rwa [show o + i + (j + 1) = o + (i + 1) + j by omega] at this) (fun u hu => h1 u (by simp [hu]))]
    rw [setBlk_setBlk]
    rfl

/-- The same heap, whatever was drawn. -/
theorem Post.same {G : Gh} {s : St} {w w' : World} (h : Inv G s w) (h1 : w'.heap = w.heap) (h2 : w'.os = w.os) (h3 : w'.tape = w.tape) (h4 : w'.output = w.output) : Post G s w G s w' := by
  refine ⟨Gh.le.refl G, ?_, ⟨by rw [h1]; exact Nat.le_refl _, h2, h3, h4, fun b _ _ _ => by rw [h1]⟩, fun _ _ h => .inl h, fun r _ e k h => .inl ⟨r, e, k, h⟩, Nat.le_refl _, fun _ _ h => h, fun _ _ _ h _ _ => h⟩
  refine { h with imm := ?_, obj := ?_, tok := ?_, tokEl := ?_, blkLt := ?_, tokLt := ?_, room := fun b K hK => by rw [h1]; exact h.room b K hK }
  · intro b o v hv
    have := h.imm b o v hv
    simpa [World.cell?, h1] using this
  · intro r ob hr ht
    obtain ⟨b, o, e1, e2, e3⟩ := h.obj r ob hr ht
    exact ⟨b, o, e1, by rw [h1]; exact e2, e3⟩
  · intro r el0 hr
    obtain ⟨b, e, k, vs, el, lo, hi, e1, e2, e3⟩ := h.tok r el0 hr
    exact ⟨b, e, k, vs, el, lo, hi, e1, by rw [h1]; exact e2, e3⟩
  · intro r el x b e k hr hg; rw [h1]; exact h.tokEl r el x b e k hr hg
  · intro r b hb; rw [h1]; exact h.blkLt r b hb
  · intro r b e k hb; rw [h1]; exact h.tokLt r b e k hb

/-- An object written. -/
theorem Post.write {G : Gh} {s : St} {w : World} (h : Inv G s w) {r : Nat} {ob ob' : HObj} {b : Nat} {o' : Obj} (hr : s.heap.get r = some ob) (_ht : ob.isTok = false) (hb : G.blk r = some b)
    (ht' : ob'.isTok = false) (hrel : ObjRel G ob' o') (hroom : ∀ vs el f, w.heap[b]? = some (.cells vs el f) → ∃ vs', o' = .cells vs' el f ∧ vs'.size = vs.size) : Post G s w G (s.upd r ob') (setBlk w b o') := by
  have hlt := h.blkLt r b hb
  refine ⟨Gh.le.refl G, ?_, ⟨by rw [setBlk_size]; exact Nat.le_refl _, rfl, rfl, rfl, ?_⟩, fun _ _ h => .inl h, fun r _ e k h => .inl ⟨r, e, k, h⟩, Nat.le_refl _, ?_, fun _ _ _ h _ _ => h⟩
  · have hR : ∀ c K, G.room c = some K → (∃ vs el lo hi, (setBlk w b o').heap[c]? = some (.cells vs el (lo, hi)) ∧ K * G.sz el ≤ vs.size ∧ (K * G.sz el ≤ lo ∨ hi ≤ lo)) ∧ ∀ r e k, G.tok r ≠ some (c, e, k) := fun c K hK => by
      obtain ⟨⟨vs, el, lo, hi, h1, h2⟩, h5⟩ := h.room c K hK
      refine ⟨?_, h5⟩
      by_cases e : c = b
      · subst e
        obtain ⟨vs', h3, h4⟩ := hroom vs el _ h1
        exact ⟨vs', el, lo, hi, by rw [setBlk_same w c o' hlt, h3], by rw [h4]; exact h2⟩
      · exact ⟨vs, el, lo, hi, by rw [setBlk_other w b c o' e]; exact h1, h2⟩
    refine { blkImm := h.blkImm, blkTok := h.blkTok, room := hR, imm := ?_, obj := ?_, tok := ?_, tokEl := ?_, blkInj := ?_, tokSep := ?_, tokTop := ?_, fresh := ?_, blkLt := ?_, tokLt := ?_ }
    · intro c o v hv
      have hne : c ≠ b := fun e => by subst e; rw [h.blkImm r c o hb] at hv; cases hv
      rw [cell_of_blk (setBlk_other w b c o' hne)]
      exact h.imm c o v hv
    · intro q ob2 hq hq2
      rw [St.get_upd] at hq
      by_cases e : q = r
      · subst e
        rw [if_pos rfl] at hq
        cases hq
        exact ⟨b, o', hb, setBlk_same w b o' hlt, hrel⟩
      · rw [if_neg e] at hq
        obtain ⟨c, o, e1, e2, e3⟩ := h.obj q ob2 hq hq2
        have hne : c ≠ b := fun e4 => by subst e4; exact e (h.blkInj q r c (by rw [hq]; simp) (by rw [hr]; simp) e1 hb)
        exact ⟨c, o, e1, by rw [setBlk_other w b c o' hne]; exact e2, e3⟩
    · intro q el0 hq
      rw [St.get_upd] at hq
      by_cases e : q = r
      · rw [if_pos e] at hq; cases hq; cases ht'
      · rw [if_neg e] at hq
        obtain ⟨c, e', k, vs, el, lo, hi, e1, e2, e3⟩ := h.tok q el0 hq
        have hne : c ≠ b := fun e4 => by subst e4; exact h.blkTok r q c e' k hb e1
        exact ⟨c, e', k, vs, el, lo, hi, e1, by rw [setBlk_other w b c o' hne]; exact e2, e3⟩
    · intro q el x c e' k hq hg
      rw [St.get_upd] at hq
      by_cases e : q = r
      · rw [if_pos e] at hq; cases hq; cases ht'
      · rw [if_neg e] at hq
        rw [setBlk_other w b c o' (fun e4 => by subst e4; exact h.blkTok r q c e' k hb hg)]
        exact h.tokEl q el x c e' k hq hg
    · intro p q c hp hq
      have f : ∀ x, (s.upd r ob').heap.get x ≠ none → s.heap.get x ≠ none := fun x hx => by
        rw [St.get_upd] at hx
        by_cases e : x = r
        · subst e; rw [hr]; simp
        · rw [if_neg e] at hx; exact hx
      exact h.blkInj p q c (f p hp) (f q hq)
    · intro p q c e k e' k' t u hp hq
      have f : ∀ x t, (s.upd r ob').heap.get x = some (.tok t false) → s.heap.get x = some (.tok t false) := fun x t hx => by
        rw [St.get_upd] at hx
        by_cases e : x = r
        · rw [if_pos e] at hx; cases hx; cases ht'
        · rw [if_neg e] at hx; exact hx
      exact h.tokSep p q c e k e' k' t u (f p t hp) (f q u hq)
    · intro p q c e k e' k' t hp
      rw [St.get_upd] at hp
      by_cases e0 : p = r
      · rw [if_pos e0] at hp; cases hp; cases ht'
      · rw [if_neg e0] at hp; exact h.tokTop p q c e k e' k' t hp
    · intro q hq
      obtain ⟨h1, h2, h3⟩ := h.fresh q hq
      refine ⟨?_, h2, h3⟩
      rw [St.get_upd, if_neg (fun e => by subst e; rw [hr] at h1; cases h1)]
      exact h1
    · intro q c hc; rw [setBlk_size]; exact h.blkLt q c hc
    · intro q c e k hc; rw [setBlk_size]; exact h.tokLt q c e k hc
  · intro c _ hc _
    refine setBlk_other w b c o' (fun e => ?_)
    subst e
    have := hc r hb
    rw [hr] at this
    cases this
  · intro q _ hq
    rw [St.get_upd, if_neg (fun e => by subst e; rw [hr] at hq; cases hq)]
    exact hq


structure Pushed (w w' : World) (o : Obj) : Prop where
  heap : w'.heap = w.heap.push o
  os : w'.os = w.os
  tape : w'.tape = w.tape
  output : w'.output = w.output

theorem Pushed.old {w w' : World} {o : Obj} (h : Pushed w w' o) {b : Nat} (hb : b < w.heap.size) : w'.heap[b]? = w.heap[b]? := by
  rw [h.heap, Array.getElem?_push, if_neg (by omega)]
theorem Pushed.new {w w' : World} {o : Obj} (h : Pushed w w' o) : w'.heap[w.heap.size]? = some o := by
  rw [h.heap, Array.getElem?_push, if_pos rfl]
theorem Pushed.size {w w' : World} {o : Obj} (h : Pushed w w' o) : w'.heap.size = w.heap.size + 1 := by rw [h.heap]; simp
theorem Pushed.kept {w w' : World} {o : Obj} (h : Pushed w w' o) (G : Gh) (s : St) : Kept G s w w' :=
  ⟨by rw [h.size]; omega, h.os, h.tape, h.output, fun _ hb _ _ => h.old hb⟩

theorem lt_of_cell {w : World} {b o : Nat} {v : Value} (h : w.cell? ⟨b, o, none⟩ = some v) : b < w.heap.size := by
  unfold World.cell? at h
  split at h
  · rename_i hb; exact lt_of_blk hb
  · cases h

def Gh.addImm (G : Gh) (b : Nat) (f : Nat → Option Value) : Gh := { G with imm := fun c o => if c = b then f o else G.imm c o }
def Gh.addBlk (G : Gh) (r b : Nat) : Gh := { G with blk := fun q => if q = r then some b else G.blk q }
def Gh.addTok (G : Gh) (r : Nat) (x : Nat × Nat × Nat) : Gh := { G with tok := fun q => if q = r then some x else G.tok q }

theorem Inv.immLt {G : Gh} {s : St} {w : World} (h : Inv G s w) {b o : Nat} {v : Value} (hv : G.imm b o = some v) : b < w.heap.size := lt_of_cell (h.imm b o v hv)

theorem Inv.le_addImm {G : Gh} {s : St} {w : World} (h : Inv G s w) (f : Nat → Option Value) : G.le (G.addImm w.heap.size f) := by
  refine ⟨fun b o v hv => ?_, fun _ _ h => h, fun _ _ h => h, fun _ _ h => h, rfl⟩
  have := h.immLt hv
  simp only [Gh.addImm]
  rw [if_neg (by omega)]
  exact hv

/-- The world's part of the relation, one block more. -/
theorem Inv.push {G : Gh} {s : St} {w w' : World} (h : Inv G s w) {o : Obj} (hp : Pushed w w' o) : Inv G s w' := by
  have hR : ∀ b K, G.room b = some K → (∃ vs el lo hi, w'.heap[b]? = some (.cells vs el (lo, hi)) ∧ K * G.sz el ≤ vs.size ∧ (K * G.sz el ≤ lo ∨ hi ≤ lo)) ∧ ∀ r e k, G.tok r ≠ some (b, e, k) := fun b K hK => by
    obtain ⟨⟨vs, el, lo, hi, h1, h2⟩, h5⟩ := h.room b K hK
    exact ⟨⟨vs, el, lo, hi, by rw [hp.old (lt_of_blk h1)]; exact h1, h2⟩, h5⟩
  refine { h with imm := ?_, obj := ?_, tok := ?_, tokEl := ?_, blkLt := ?_, tokLt := ?_, room := hR }
  · intro b o v hv
    rw [cell_of_blk (hp.old (h.immLt hv))]
    exact h.imm b o v hv
  · intro r ob hr ht
    obtain ⟨b, o, e1, e2, e3⟩ := h.obj r ob hr ht
    exact ⟨b, o, e1, by rw [hp.old (lt_of_blk e2)]; exact e2, e3⟩
  · intro r el0 hr
    obtain ⟨b, e, k, vs, el, lo, hi, e1, e2, e3⟩ := h.tok r el0 hr
    exact ⟨b, e, k, vs, el, lo, hi, e1, by rw [hp.old (lt_of_blk e2)]; exact e2, e3⟩
  · intro r el x b e k hr hg; rw [hp.old (h.tokLt r b e k hg)]; exact h.tokEl r el x b e k hr hg
  · intro r b hb; rw [hp.size]; have := h.blkLt r b hb; omega
  · intro r b e k hb; rw [hp.size]; have := h.tokLt r b e k hb; omega

/-- What is newly known of a block that was not there when 'n' blocks were. -/
theorem Inv.addImm {G : Gh} {s : St} {w : World} (h : Inv G s w) (b : Nat) (f : Nat → Option Value) (h0 : ∀ o, G.imm b o = none) (h1 : ∀ r, G.blk r ≠ some b) (h2 : ∀ r e k, G.tok r ≠ some (b, e, k))
    (hf : ∀ o v, f o = some v → w.cell? ⟨b, o, none⟩ = some v) : Inv (G.addImm b f) s w ∧ G.le (G.addImm b f) := by
  have hle : G.le (G.addImm b f) := ⟨fun c o v hv => by
    simp only [Gh.addImm]
    rw [if_neg (fun e => by subst e; rw [h0] at hv; cases hv)]
    exact hv, fun _ _ h => h, fun _ _ h => h, fun _ _ h => h, rfl⟩
  refine ⟨{ h with imm := ?_, obj := ?_, tok := ?_, blkImm := ?_ }, hle⟩
  · intro c o v hv
    simp only [Gh.addImm] at hv
    split at hv
    · rename_i e; subst e; exact hf o v hv
    · exact h.imm c o v hv
  · intro r ob hr ht
    obtain ⟨c, o, e1, e2, e3⟩ := h.obj r ob hr ht
    exact ⟨c, o, e1, e2, e3.mono hle⟩
  · intro r el0 hr
    obtain ⟨c, e, k, vs, el, lo, hi, e1, e2, e3, e4, e5, e6⟩ := h.tok r el0 hr
    refine ⟨c, e, k, vs, el, lo, hi, e1, e2, e3, e4, e5, fun o ho => ?_⟩
    simp only [Gh.addImm]
    rw [if_neg (fun e => by subst e; exact h2 r _ k e1)]
    exact e6 o ho
  · intro r c o hc
    simp only [Gh.addImm]
    rw [if_neg (fun e => by subst e; exact h1 r hc)]
    exact h.blkImm r c o hc

theorem Inv.noImmNew {G : Gh} {s : St} {w : World} (h : Inv G s w) (o : Nat) : G.imm w.heap.size o = none := by
  cases hv : G.imm w.heap.size o with
  | none => rfl
  | some v => have := h.immLt hv; omega

/-- A new block that nobody writes: its cells are known for good. -/
theorem Post.pushImm {G : Gh} {s : St} {w w' : World} (h : Inv G s w) {o : Obj} (hp : Pushed w w' o) (f : Nat → Option Value) (hf : ∀ i v, f i = some v → w'.cell? ⟨w.heap.size, i, none⟩ = some v) :
    Post G s w (G.addImm w.heap.size f) s w' := by
  obtain ⟨hI, hle⟩ := (h.push hp).addImm w.heap.size f h.noImmNew (fun r hr => by have := h.blkLt r _ hr; omega) (fun r e k hr => by have := h.tokLt r _ e k hr; omega) hf
  exact ⟨hle, hI, hp.kept G s, fun _ _ h => .inl h, fun r _ e k h => .inl ⟨r, e, k, h⟩, Nat.le_refl _, fun _ _ h => h, fun c o v hv hc _ => by
    simp only [Gh.addImm] at hv
    rw [if_neg (by omega)] at hv
    exact hv⟩

/-- An object given its name: the block is there, and nothing else has it. -/
theorem Inv.reg {G : Gh} {s s' : St} {w : World} (h : Inv G s w) {r b : Nat} {ob : HObj} {o : Obj} (hget : ∀ q, s'.heap.get q = if q = r then some ob else s.heap.get q) (hn : s.next ≤ s'.next) (hrn : r < s'.next)
    (hr : s.heap.get r = none) (hb : G.blk r = some b) (ht : ob.isTok = false) (hw : w.heap[b]? = some o) (hrel : ObjRel G ob o)
    (hun : ∀ q, G.blk q = some b → s.heap.get q = none) : Inv G s' w := by
  refine { h with obj := ?_, tok := ?_, tokEl := ?_, blkInj := ?_, tokSep := ?_, tokTop := ?_, fresh := ?_ }
  · intro q ob2 hq hq2
    rw [hget] at hq
    split at hq
    · rename_i e; subst e; cases hq; exact ⟨b, o, hb, hw, hrel⟩
    · exact h.obj q ob2 hq hq2
  · intro q el0 hq
    rw [hget] at hq
    split at hq
    · cases hq; cases ht
    · exact h.tok q el0 hq
  · intro q el x c e k hq hg
    rw [hget] at hq
    split at hq
    · cases hq; cases ht
    · exact h.tokEl q el x c e k hq hg
  · intro p q c hp hq hpc hqc
    rw [hget] at hp hq
    by_cases e1 : p = r
    · by_cases e2 : q = r
      · rw [e1, e2]
      · rw [if_neg e2] at hq
        subst e1
        rw [hb] at hpc; cases hpc
        exact absurd (hun q hqc) hq
    · rw [if_neg e1] at hp
      by_cases e2 : q = r
      · subst e2
        rw [hb] at hqc; cases hqc
        exact absurd (hun p hpc) hp
      · rw [if_neg e2] at hq
        exact h.blkInj p q c hp hq hpc hqc
  · intro p q c e k e' k' t u hp hq
    rw [hget] at hp hq
    split at hp
    · cases hp; cases ht
    · split at hq
      · cases hq; cases ht
      · exact h.tokSep p q c e k e' k' t u hp hq
  · intro p q c e k e' k' t hp
    rw [hget] at hp
    split at hp
    · cases hp; cases ht
    · exact h.tokTop p q c e k e' k' t hp
  · intro q hq
    obtain ⟨h1, h2, h3⟩ := h.fresh q (by omega)
    refine ⟨?_, h2, h3⟩
    rw [hget, if_neg (by omega)]
    exact h1

/-- A name for a block that nobody has. -/
theorem Inv.addBlk {G : Gh} {s : St} {w : World} (h : Inv G s w) {r b : Nat} (hr : G.blk r = none) (hrt : s.heap.get r = none) (hb : b < w.heap.size) (h0 : ∀ o, G.imm b o = none)
    (h2 : ∀ q e k, G.tok q ≠ some (b, e, k)) (hrn : r < s.next) : Inv (G.addBlk r b) s w ∧ G.le (G.addBlk r b) := by
  have hle : G.le (G.addBlk r b) := ⟨fun _ _ _ h => h, fun q c hq => by
    simp only [Gh.addBlk]
    rw [if_neg (fun e => by subst e; rw [hr] at hq; cases hq)]
    exact hq, fun _ _ h => h, fun _ _ h => h, rfl⟩
  refine ⟨{ h with obj := ?_, blkInj := ?_, blkImm := ?_, blkTok := ?_, fresh := ?_, blkLt := ?_ }, hle⟩
  · intro q ob hq ht
    obtain ⟨c, o, e1, e2, e3⟩ := h.obj q ob hq ht
    exact ⟨c, o, hle.blk _ _ e1, e2, e3.mono hle⟩
  · intro p q c hp hq hpc hqc
    simp only [Gh.addBlk] at hpc hqc
    rw [if_neg (fun e => by subst e; exact hp hrt)] at hpc
    rw [if_neg (fun e => by subst e; exact hq hrt)] at hqc
    exact h.blkInj p q c hp hq hpc hqc
  · intro q c o hc
    simp only [Gh.addBlk] at hc
    split at hc
    · cases hc; exact h0 o
    · exact h.blkImm q c o hc
  · intro p q c e k hp hq
    simp only [Gh.addBlk] at hp
    split at hp
    · cases hp; exact h2 q e k hq
    · exact h.blkTok p q c e k hp hq
  · intro q hq
    obtain ⟨a1, a2, a3⟩ := h.fresh q hq
    refine ⟨a1, ?_, a3⟩
    simp only [Gh.addBlk]
    rw [if_neg (by omega)]
    exact a2
  · intro q c hc
    simp only [Gh.addBlk] at hc
    split at hc
    · cases hc; exact hb
    · exact h.blkLt q c hc


theorem Inv.bump {G : Gh} {s : St} {w : World} (h : Inv G s w) {n : Nat} (hn : s.next ≤ n) : Inv G { s with next := n } w :=
  { h with fresh := fun r hr => h.fresh r (Nat.le_trans hn hr) }

/-- A new object, under the next name. -/
theorem Post.newObj {G : Gh} {s : St} {w w' : World} (h : Inv G s w) {ob : HObj} {o : Obj} (hp : Pushed w w' o) (ht : ob.isTok = false)
    (hrel : ObjRel (G.addBlk s.next w.heap.size) ob o) : Post G s w (G.addBlk s.next w.heap.size) (s.alloc ob) w' := by
  obtain ⟨f1, f2, f3⟩ := h.fresh s.next (Nat.le_refl _)
  have hb := (h.push hp).bump (n := s.next + 1) (by omega)
  obtain ⟨hI, hle⟩ := hb.addBlk (r := s.next) (b := w.heap.size) f2 f1 (by rw [hp.size]; omega) h.noImmNew (fun q e k hq => by have := h.tokLt q _ e k hq; omega) (by simp)
  have hI2 : Inv (G.addBlk s.next w.heap.size) (s.alloc ob) w' := by
    refine hI.reg (r := s.next) (b := w.heap.size) (ob := ob) (o := o) (fun q => St.get_alloc s ob q) (by simp [St.alloc]) (by simp [St.alloc]) f1 (by simp [Gh.addBlk]) ht hp.new hrel (fun q hq => ?_)
    simp only [Gh.addBlk] at hq
    split at hq
    · rename_i e; subst e; exact f1
    · have := h.blkLt q _ hq; omega
  refine ⟨hle, hI2, hp.kept G s, fun r b hr => ?_, fun r _ e k h => .inl ⟨r, e, k, h⟩, by simp [St.alloc], fun r hr hr0 => ?_, fun _ _ _ h _ _ => h⟩
  · simp only [Gh.addBlk] at hr
    split at hr
    · rename_i e; cases hr; exact .inr ⟨by rw [e]; exact Nat.le_refl _, .inr (Nat.le_refl _)⟩
    · exact .inl hr
  · rw [St.get_alloc, if_neg (by omega)]
    exact hr0

/-- A row begun: a new block whose head is known for good, and which may grow. -/
theorem Post.tokNew {G : Gh} {s : St} {w w' : World} (h : Inv G s w) {vs : Array Value} {el : TypeId} {lo hi e : Nat} (hp : Pushed w w' (.cells vs el (lo, hi))) (he : e ≤ vs.size)
    (hz : hi ≤ e) :
    Post G s w ((G.addImm w.heap.size fun i => if i < e then vs[i]? else none).addTok s.next (w.heap.size, e, vs.size)) (s.alloc (.tok el false)) w' := by
  obtain ⟨f1, f2, f3⟩ := h.fresh s.next (Nat.le_refl _)
  have hnew := hp.new
  have hP := Post.pushImm h hp (fun i => if i < e then vs[i]? else none) (fun i v hv => by
    rw [cell_cells hnew]
    split at hv
    · exact hv
    · cases hv)
  have hle : (G.addImm w.heap.size fun i => if i < e then vs[i]? else none).le ((G.addImm w.heap.size fun i => if i < e then vs[i]? else none).addTok s.next (w.heap.size, e, vs.size)) :=
    ⟨fun _ _ _ h => h, fun _ _ h => h, fun r x hx => by
      simp only [Gh.addTok]
      rw [if_neg (fun e0 => by subst e0; simp only [Gh.addImm] at hx; rw [f3] at hx; cases hx)]
      exact hx, fun _ _ h => h, rfl⟩
  have hI := hP.inv
  refine ⟨hP.le.trans hle, ?_, hp.kept G s, fun _ _ h => .inl h, fun r b e' k hr => ?_, by simp [St.alloc], fun r hr hr0 => ?_, fun c o v hv hc hn => hP.newImm c o v hv hc hn⟩
  · have hR : ∀ c K, G.room c = some K → (∃ vs el lo hi, w'.heap[c]? = some (.cells vs el (lo, hi)) ∧ K * G.sz el ≤ vs.size ∧ (K * G.sz el ≤ lo ∨ hi ≤ lo)) ∧
        ∀ r e' k', (if r = s.next then some (w.heap.size, e, vs.size) else G.tok r) ≠ some (c, e', k') := fun c K hK => by
      obtain ⟨h1, h5⟩ := hI.room c K hK
      refine ⟨h1, fun r e' k' hr => ?_⟩
      split at hr
      · cases hr
        obtain ⟨⟨_, _, _, _, h2, _⟩, _⟩ := h.room _ K hK
        have := lt_of_blk h2
        omega
      · exact h5 r e' k' hr
    refine { hI with room := hR, obj := ?_, tok := ?_, tokEl := ?_, blkInj := ?_, blkTok := ?_, tokSep := ?_, tokTop := ?_, fresh := ?_, tokLt := ?_ }
    · intro r ob hr ht
      rw [St.get_alloc] at hr
      split at hr
      · cases hr; cases ht
      · obtain ⟨b, o, e1, e2, e3⟩ := hI.obj r ob hr ht
        exact ⟨b, o, e1, e2, e3.mono hle⟩
    · intro r el0 hr
      rw [St.get_alloc] at hr
      by_cases e0 : r = s.next
      · subst e0
        refine ⟨w.heap.size, e, vs.size, vs, el, lo, hi, by simp [Gh.addTok], hnew, Nat.le_refl _, he, hz, fun o ho => ?_⟩
        simp only [Gh.addTok, Gh.addImm, if_true]
        rw [if_neg (by omega)]
      · rw [if_neg e0] at hr
        obtain ⟨b, e', k, vs', el', lo', hi', e1, e2⟩ := hI.tok r el0 hr
        exact ⟨b, e', k, vs', el', lo', hi', hle.tok _ _ e1, e2⟩
    · intro r el1 x b e' k hr hg
      rw [St.get_alloc] at hr
      simp only [Gh.addTok] at hg
      by_cases e0 : r = s.next
      · rw [if_pos e0] at hg hr
        cases hg; cases hr
        exact ⟨vs, (lo, hi), hnew⟩
      · rw [if_neg e0] at hg hr
        exact hI.tokEl r el1 x b e' k hr hg
    · intro r q b hr hq
      have f : ∀ x, (s.alloc (.tok el false)).heap.get x ≠ none → G.blk x ≠ none → s.heap.get x ≠ none := fun x hx hb => by
        rw [St.get_alloc] at hx
        split at hx
        · rename_i e0; subst e0; exact absurd f2 hb
        · exact hx
      intro h1 h2
      exact hI.blkInj r q b (f r hr (by rw [show G.blk r = some b from h1]; simp)) (f q hq (by rw [show G.blk q = some b from h2]; simp)) h1 h2
    · intro r q b e' k hr hq
      simp only [Gh.addTok] at hq
      split at hq
      · cases hq
        have := h.blkLt r _ hr
        omega
      · exact hI.blkTok r q b e' k hr hq
    · intro r q b e1 k1 e2 k2 t u hr hq h1 h2
      rw [St.get_alloc] at hr hq
      simp only [Gh.addTok] at h1 h2
      by_cases a1 : r = s.next
      · by_cases a2 : q = s.next
        · rw [a1, a2]
        · rw [if_neg a2] at h2
          rw [if_pos a1] at h1
          cases h1
          have := h.tokLt q _ e2 k2 h2
          omega
      · rw [if_neg a1] at h1 hr
        by_cases a2 : q = s.next
        · rw [if_pos a2] at h2
          cases h2
          have := h.tokLt r _ e1 k1 h1
          omega
        · rw [if_neg a2] at h2 hq
          exact hI.tokSep r q b e1 k1 e2 k2 t u hr hq h1 h2
    · intro r q b e1 k1 e2 k2 t hr h1 h2
      rw [St.get_alloc] at hr
      simp only [Gh.addTok] at h1 h2
      by_cases a1 : r = s.next
      · rw [if_pos a1] at h1
        cases h1
        by_cases a2 : q = s.next
        · rw [if_pos a2] at h2; cases h2; exact Nat.le_refl _
        · rw [if_neg a2] at h2
          have := h.tokLt q _ e2 k2 h2
          omega
      · rw [if_neg a1] at h1 hr
        by_cases a2 : q = s.next
        · rw [if_pos a2] at h2
          cases h2
          have := h.tokLt r _ e1 k1 h1
          omega
        · rw [if_neg a2] at h2
          exact hI.tokTop r q b e1 k1 e2 k2 t hr h1 h2
    · intro r hr
      simp only [St.next_alloc] at hr
      obtain ⟨a1, a2, a3⟩ := hI.fresh r (by omega)
      refine ⟨?_, a2, ?_⟩
      · rw [St.get_alloc, if_neg (by omega)]; exact a1
      · simp only [Gh.addTok]; rw [if_neg (by omega)]; exact a3
    · intro r b e' k hr
      simp only [Gh.addTok] at hr
      split at hr
      · cases hr; rw [hp.size]; omega
      · exact hI.tokLt r b e' k hr
  · simp only [Gh.addTok] at hr
    split at hr
    · cases hr; exact .inr (Nat.le_refl _)
    · exact .inl ⟨r, e', k, hr⟩
  · rw [St.get_alloc, if_neg (by omega)]
    exact hr0

/-- A row that grows where it lies. -/
theorem Post.tokGrow {G : Gh} {s : St} {w : World} (h : Inv G s w) {n b e k : Nat} {el : TypeId} (hn : s.heap.get n = some (.tok el false)) (hg : G.tok n = some (b, e, k)) {vs : Array Value} {lo hi : Nat}
    (hw : w.heap[b]? = some (.cells vs el (lo, hi))) (ws : List Value) (hfit : e + ws.length ≤ k) :
    Post G s w ((G.addImm b fun i => if e ≤ i ∧ i < e + ws.length then ws[i - e]? else G.imm b i).addTok s.next (b, e + ws.length, k)) ((s.upd n (.tok el true)).alloc (.tok el false))
      (setBlk w b (.cells (arrSet vs e ws) el (lo, hi))) := by
  obtain ⟨f1, f2, f3⟩ := h.fresh s.next (Nat.le_refl _)
  obtain ⟨b', e', k', vs', el', lo', hi', t1, t2, t3, t4, t5, t6⟩ := h.tok n el hn
  rw [hg] at t1; cases t1
  rw [hw] at t2; cases t2
  have hlt := lt_of_blk hw
  have hnn : n < s.next := by
    rcases Nat.lt_or_ge n s.next with h' | h'
    · exact h'
    · rw [(h.fresh n h').1] at hn; cases hn
  have hle1 : G.le (G.addImm b fun i => if e ≤ i ∧ i < e + ws.length then ws[i - e]? else G.imm b i) := ⟨fun c o v hv => by
    simp only [Gh.addImm]
    by_cases e0 : c = b
    · subst e0
      rw [if_pos rfl, if_neg (fun hh => by rw [t6 o hh.1] at hv; cases hv)]
      exact hv
    · rw [if_neg e0]; exact hv, fun _ _ h => h, fun _ _ h => h, fun _ _ h => h, rfl⟩
  have hle2 : (G.addImm b fun i => if e ≤ i ∧ i < e + ws.length then ws[i - e]? else G.imm b i).le ((G.addImm b fun i => if e ≤ i ∧ i < e + ws.length then ws[i - e]? else G.imm b i).addTok s.next (b, e + ws.length, k)) :=
    ⟨fun _ _ _ h => h, fun _ _ h => h, fun r x hx => by
      simp only [Gh.addTok]
      rw [if_neg (fun e0 => by subst e0; simp only [Gh.addImm] at hx; rw [f3] at hx; cases hx)]
      exact hx, fun _ _ h => h, rfl⟩
  have hle := hle1.trans hle2
  have get2 : ∀ q, ((s.upd n (.tok el true)).alloc (.tok el false)).heap.get q = if q = s.next then some (.tok el false) else if q = n then some (.tok el true) else s.heap.get q := fun q => by
    rw [St.get_alloc, St.get_upd, St.next_upd]
  have other : ∀ c, c ≠ b → (setBlk w b (.cells (arrSet vs e ws) el (lo, hi))).heap[c]? = w.heap[c]? := fun c hc => setBlk_other w b c _ hc
  have same := setBlk_same w b (.cells (arrSet vs e ws) el (lo, hi)) hlt
  refine ⟨hle, ?_, ⟨by rw [setBlk_size]; exact Nat.le_refl _, rfl, rfl, rfl, fun c _ _ hc => other c (fun e0 => by subst e0; exact hc n e k hg)⟩, fun _ _ h => .inl h, fun r c e' k' hr => ?_, by simp [St.alloc, St.upd], fun r hr hr0 => ?_, fun c o v hv _ hc => by
    simp only [Gh.addTok, Gh.addImm] at hv
    rw [if_neg (fun e0 => by subst e0; exact hc n e k hg)] at hv
    exact hv⟩
  · have hR : ∀ c K, G.room c = some K → (∃ vs1 el1 lo1 hi1, (setBlk w b (.cells (arrSet vs e ws) el (lo, hi))).heap[c]? = some (.cells vs1 el1 (lo1, hi1)) ∧ K * G.sz el1 ≤ vs1.size ∧ (K * G.sz el1 ≤ lo1 ∨ hi1 ≤ lo1)) ∧
        ∀ r e' k', (if r = s.next then some (b, e + ws.length, k) else G.tok r) ≠ some (c, e', k') := fun c K hK => by
      obtain ⟨⟨vs', el', lo', hi', h1, h2⟩, h5⟩ := h.room c K hK
      have e0 : c ≠ b := fun e0 => by subst e0; exact h5 _ _ _ hg
      refine ⟨⟨vs', el', lo', hi', by rw [other c e0]; exact h1, h2⟩, fun r e' k' hr => ?_⟩
      split at hr
      · cases hr; exact e0 rfl
      · exact h5 r e' k' hr
    refine { room := hR, blkImm := ?_, imm := ?_, obj := ?_, tok := ?_, tokEl := ?_, blkInj := ?_, blkTok := ?_, tokSep := ?_, tokTop := ?_, fresh := ?_, blkLt := ?_, tokLt := ?_ }
    · intro c o v hv
      simp only [Gh.addTok, Gh.addImm] at hv
      by_cases e0 : c = b
      · subst e0
        rw [if_pos rfl] at hv
        rw [cell_cells same, arrSet_get]
        split at hv
        · rename_i hh
          rw [if_pos ⟨hh.1, hh.2, by omega⟩]
          exact hv
        · rename_i hh
          have := h.imm c o v hv
          rw [cell_cells hw] at this
          rw [if_neg (fun h0 => hh ⟨h0.1, h0.2.1⟩)]
          exact this
      · rw [if_neg e0] at hv
        rw [cell_of_blk (other c e0)]
        exact h.imm c o v hv
    · intro r ob hr ht
      rw [get2] at hr
      split at hr
      · cases hr; cases ht
      · split at hr
        · cases hr; cases ht
        · obtain ⟨c, o, e1, e2, e3⟩ := h.obj r ob hr ht
          exact ⟨c, o, e1, by rw [other c (fun e0 => by subst e0; exact h.blkTok r n c e k e1 hg)]; exact e2, e3.mono hle⟩
    · intro r el0 hr
      rw [get2] at hr
      by_cases e0 : r = s.next
      · subst e0
        refine ⟨b, e + ws.length, k, arrSet vs e ws, el, lo, hi, by simp [Gh.addTok], same, by rw [arrSet_size]; exact t3, hfit, by omega, fun o ho => ?_⟩
        simp only [Gh.addTok, Gh.addImm, if_true]
        rw [if_neg (by omega)]
        exact t6 o (by omega)
      · rw [if_neg e0] at hr
        split at hr
        · cases hr
        · rename_i hne
          obtain ⟨c, e', k', vs', el', lo', hi', e1, e2, e3, e4, e5, e6⟩ := h.tok r el0 hr
          have hcb : c ≠ b := fun e0 => by subst e0; exact hne (h.tokSep r n c e' k' e k el0 el hr hn e1 hg)
          refine ⟨c, e', k', vs', el', lo', hi', hle.tok _ _ e1, by rw [other c hcb]; exact e2, e3, e4, e5, fun o ho => ?_⟩
          simp only [Gh.addTok, Gh.addImm]
          rw [if_neg hcb]
          exact e6 o ho
    · intro r el1 x c e' k' hr hgr
      rw [get2] at hr
      simp only [Gh.addTok] at hgr
      have blk : ∀ c : Nat, (∃ vs f, w.heap[c]? = some (Obj.cells vs el1 f)) → ∃ vs1 f, (setBlk w b (Obj.cells (arrSet vs e ws) el (lo, hi))).heap[c]? = some (Obj.cells vs1 el1 f) := fun c ⟨vs1, f, hc⟩ => by
        by_cases e0 : c = b
        · subst e0; rw [hw] at hc; cases hc; exact ⟨_, _, same⟩
        · exact ⟨vs1, f, by rw [other c e0]; exact hc⟩
      by_cases e0 : r = s.next
      · rw [if_pos e0] at hgr hr
        cases hgr; cases hr
        exact ⟨_, _, same⟩
      · rw [if_neg e0] at hgr hr
        split at hr
        · rename_i e1; subst e1; cases hr; exact blk c (h.tokEl r el false c e' k' hn hgr)
        · exact blk c (h.tokEl r el1 x c e' k' hr hgr)
    · intro r q c hr hq h1 h2
      have f : ∀ x, ((s.upd n (.tok el true)).alloc (.tok el false)).heap.get x ≠ none → G.blk x ≠ none → s.heap.get x ≠ none := fun x hx hb => by
        rw [get2] at hx
        split at hx
        · rename_i e0; subst e0; exact absurd f2 hb
        · split at hx
          · rename_i e0; subst e0; rw [hn]; simp
          · exact hx
      exact h.blkInj r q c (f r hr (by rw [show G.blk r = some c from h1]; simp)) (f q hq (by rw [show G.blk q = some c from h2]; simp)) h1 h2
    · intro r c o hc
      simp only [Gh.addTok, Gh.addImm]
      rw [if_neg (fun e0 => by subst e0; exact h.blkTok r n c e k hc hg)]
      exact h.blkImm r c o hc
    · intro r q c e' k' hr hq
      simp only [Gh.addTok] at hq
      split at hq
      · cases hq; exact h.blkTok r n b e k hr hg
      · exact h.blkTok r q c e' k' hr hq
    · intro r q c e1 k1 e2 k2 t u hr hq h1 h2
      rw [get2] at hr hq
      simp only [Gh.addTok] at h1 h2
      by_cases a1 : r = s.next
      · by_cases a2 : q = s.next
        · rw [a1, a2]
        · rw [if_neg a2] at h2 hq
          rw [if_pos a1] at h1
          cases h1
          split at hq
          · cases hq
          · rename_i hne
            exact absurd (h.tokSep q n b e2 k2 e k u el hq hn h2 hg) hne
      · rw [if_neg a1] at h1 hr
        split at hr
        · cases hr
        · rename_i hne
          by_cases a2 : q = s.next
          · rw [if_pos a2] at h2
            cases h2
            exact absurd (h.tokSep r n b e1 k1 e k t el hr hn h1 hg) hne
          · rw [if_neg a2] at h2 hq
            split at hq
            · cases hq
            · exact h.tokSep r q c e1 k1 e2 k2 t u hr hq h1 h2
    · intro r q c e1 k1 e2 k2 t hr h1 h2
      rw [get2] at hr
      simp only [Gh.addTok] at h1 h2
      by_cases a1 : r = s.next
      · rw [if_pos a1] at h1
        cases h1
        by_cases a2 : q = s.next
        · rw [if_pos a2] at h2; cases h2; exact Nat.le_refl _
        · rw [if_neg a2] at h2
          have := h.tokTop n q b e k e2 k2 el hn hg h2
          omega
      · rw [if_neg a1] at h1 hr
        split at hr
        · cases hr
        · rename_i hne
          by_cases a2 : q = s.next
          · rw [if_pos a2] at h2
            cases h2
            exact absurd (h.tokSep r n b e1 k1 e k t el hr hn h1 hg) hne
          · rw [if_neg a2] at h2
            exact h.tokTop r q c e1 k1 e2 k2 t hr h1 h2
    · intro r hr
      simp only [St.next_alloc, St.next_upd] at hr
      obtain ⟨a1, a2, a3⟩ := h.fresh r (by omega)
      refine ⟨?_, a2, ?_⟩
      · rw [get2, if_neg (by omega), if_neg (by omega)]; exact a1
      · simp only [Gh.addTok]; rw [if_neg (by omega)]; exact a3
    · intro r c hc; rw [setBlk_size]; exact h.blkLt r c hc
    · intro r c e' k' hr
      rw [setBlk_size]
      simp only [Gh.addTok] at hr
      split at hr
      · cases hr; exact hlt
      · exact h.tokLt r c e' k' hr
  · simp only [Gh.addTok] at hr
    split at hr
    · cases hr; exact .inl ⟨n, e, k, hg⟩
    · exact .inl ⟨r, e', k', hr⟩
  · rw [get2, if_neg (by omega), if_neg (fun e0 => by subst e0; rw [hn] at hr0; cases hr0)]
    exact hr0


/-- A row that may grow no more. -/
theorem Post.extend {G : Gh} {s : St} {w : World} (h : Inv G s w) {n : Nat} {el : TypeId} (hn : s.heap.get n = some (.tok el false)) : Post G s w G (s.upd n (.tok el true)) w := by
  have get2 : ∀ q, (s.upd n (.tok el true)).heap.get q = if q = n then some (.tok el true) else s.heap.get q := fun q => St.get_upd s n _ q
  have tokf : ∀ q t, (s.upd n (.tok el true)).heap.get q = some (.tok t false) → s.heap.get q = some (.tok t false) := fun q t hq => by
    rw [get2] at hq
    split at hq
    · cases hq
    · exact hq
  have nn : ∀ q, (s.upd n (.tok el true)).heap.get q ≠ none → s.heap.get q ≠ none := fun q hq => by
    rw [get2] at hq
    split at hq
    · rename_i e; subst e; rw [hn]; simp
    · exact hq
  refine ⟨Gh.le.refl G, ?_, Kept.refl G s w, fun _ _ h => .inl h, fun r _ e k h => .inl ⟨r, e, k, h⟩, Nat.le_refl _, fun q _ hq => ?_, fun _ _ _ h _ _ => h⟩
  · refine { h with obj := ?_, tok := ?_, tokEl := ?_, blkInj := ?_, tokSep := ?_, tokTop := ?_, fresh := ?_ }
    · intro r ob hr ht
      rw [get2] at hr
      split at hr
      · cases hr; cases ht
      · exact h.obj r ob hr ht
    · intro r el0 hr; exact h.tok r el0 (tokf r el0 hr)
    · intro r el1 x b e k hr hg
      rw [get2] at hr
      split at hr
      · rename_i e1; subst e1; cases hr; exact h.tokEl r el false b e k hn hg
      · exact h.tokEl r el1 x b e k hr hg
    · intro r q b hr hq; exact h.blkInj r q b (nn r hr) (nn q hq)
    · intro r q b e k e' k' t u hr hq; exact h.tokSep r q b e k e' k' t u (tokf r t hr) (tokf q u hq)
    · intro r q b e k e' k' t hr; exact h.tokTop r q b e k e' k' t (tokf r t hr)
    · intro r hr
      obtain ⟨h1, h2, h3⟩ := h.fresh r hr
      refine ⟨?_, h2, h3⟩
      rw [get2, if_neg (fun e => by subst e; rw [hn] at h1; cases h1)]
      exact h1
  · rw [get2, if_neg (fun e => by subst e; rw [hn] at hq; cases hq)]
    exact hq

/-! Rows that are objects, and grow. -/

def Gh.addRoom (G : Gh) (b K : Nat) : Gh := { G with room := fun c => if c = b then some K else G.room c }

theorem Inv.addRoom {G : Gh} {s : St} {w : World} (h : Inv G s w) {b K : Nat} (h0 : G.room b = none) {vs : Array Value} {el : TypeId} {lo hi : Nat} (hb : w.heap[b]? = some (.cells vs el (lo, hi))) (hK : K * G.sz el ≤ vs.size)
    (hf : K * G.sz el ≤ lo ∨ hi ≤ lo) (ht : ∀ r e k, G.tok r ≠ some (b, e, k)) : Inv (G.addRoom b K) s w ∧ G.le (G.addRoom b K) := by
  have hle : G.le (G.addRoom b K) := ⟨fun _ _ _ h => h, fun _ _ h => h, fun _ _ h => h, fun c K' hc => by
    simp only [Gh.addRoom]
    rw [if_neg (fun e => by subst e; rw [h0] at hc; cases hc)]
    exact hc, rfl⟩
  refine ⟨{ h with obj := fun r ob hr ht => ?_, room := fun c K' hc => ?_ }, hle⟩
  · obtain ⟨b', o, e1, e2, e3⟩ := h.obj r ob hr ht
    exact ⟨b', o, e1, e2, e3.mono hle⟩
  · simp only [Gh.addRoom] at hc
    split at hc
    · rename_i e; subst e; cases hc; exact ⟨⟨vs, el, lo, hi, hb, hK, hf⟩, ht⟩
    · exact h.room c K' hc

theorem Post.addRoom {G G1 : Gh} {s s1 : St} {w w1 : World} (h : Post G s w G1 s1 w1) {b K : Nat} (h0 : G1.room b = none) {vs : Array Value} {el : TypeId} {lo hi : Nat} (hb : w1.heap[b]? = some (.cells vs el (lo, hi))) (hK : K * G1.sz el ≤ vs.size)
    (hf : K * G1.sz el ≤ lo ∨ hi ≤ lo) (ht : ∀ r e k, G1.tok r ≠ some (b, e, k)) : Post G s w (G1.addRoom b K) s1 w1 := by
  obtain ⟨hI, hle⟩ := h.inv.addRoom h0 hb hK hf ht
  exact ⟨h.le.trans hle, hI, h.kept, h.newBlk, h.newTok, h.next, h.noRes, h.newImm⟩

theorem Inv.roomNew {G : Gh} {s : St} {w : World} (h : Inv G s w) : G.room w.heap.size = none := by
  cases hv : G.room w.heap.size with
  | none => rfl
  | some K =>
    obtain ⟨⟨_, _, _, _, h2, _⟩, _⟩ := h.room _ K hv
    have := lt_of_blk h2
    omega

/-- A new row that may grow. -/
theorem Post.newRow {G : Gh} {s : St} {w w' : World} (h : Inv G s w) {vs : Array Value} {el : TypeId} {lo hi : Nat} {c : List AV} (hp : Pushed w w' (.cells vs el (lo, hi)))
    (hrel : ObjRel (G.addBlk s.next w.heap.size) (.cells el c) (.cells vs el (lo, hi))) {K : Nat} (hK : K * G.sz el ≤ vs.size) (hf : K * G.sz el ≤ lo ∨ hi ≤ lo) :
    Post G s w ((G.addBlk s.next w.heap.size).addRoom w.heap.size K) (s.alloc (.cells el c)) w' :=
  (Post.newObj h hp rfl hrel).addRoom h.roomNew hp.new hK hf (fun r e k hr => by have := h.tokLt r _ e k hr; omega)

/-- An object let go. -/
theorem Inv.del {G : Gh} {s : St} {w : World} (h : Inv G s w) (r : Nat) : Inv G (s.del r) w := by
  have sub : ∀ q ob, (s.del r).heap.get q = some ob → s.heap.get q = some ob := fun q ob hq => by
    rw [St.get_del] at hq
    split at hq
    · cases hq
    · exact hq
  have sub' : ∀ q, (s.del r).heap.get q ≠ none → s.heap.get q ≠ none := fun q hq h0 => by
    rw [St.get_del] at hq
    split at hq
    · exact hq rfl
    · exact hq h0
  refine { h with obj := ?_, tok := ?_, tokEl := ?_, blkInj := ?_, tokSep := ?_, tokTop := ?_, fresh := ?_ }
  · intro q ob hq ht; exact h.obj q ob (sub q ob hq) ht
  · intro q el0 hq; exact h.tok q el0 (sub q _ hq)
  · intro q el x b e k hq hg; exact h.tokEl q el x b e k (sub q _ hq) hg
  · intro p q b hp hq; exact h.blkInj p q b (sub' p hp) (sub' q hq)
  · intro p q b e k e' k' t u hp hq; exact h.tokSep p q b e k e' k' t u (sub p _ hp) (sub q _ hq)
  · intro p q b e k e' k' t hp; exact h.tokTop p q b e k e' k' t (sub p _ hp)
  · intro q hq
    obtain ⟨h1, h2, h3⟩ := h.fresh q hq
    refine ⟨?_, h2, h3⟩
    rw [St.get_del, h1]
    split <;> rfl

theorem Post.del {G : Gh} {s : St} {w : World} (h : Inv G s w) (r : Nat) : Post G s w G (s.del r) w :=
  ⟨Gh.le.refl G, h.del r, Kept.refl G s w, fun _ _ h => .inl h, fun q _ e k h => .inl ⟨q, e, k, h⟩, Nat.le_refl _, fun q _ hq => by rw [St.get_del, hq]; split <;> rfl, fun _ _ _ h _ _ => h⟩

/-- A row that is an object grows in its place: the object is another one from then on. -/
theorem Post.growIn {G : Gh} {s : St} {w : World} (h : Inv G s w) {r b : Nat} {el : TypeId} {c c' : List AV} (hr : s.heap.get r = some (.cells el c)) (hb : G.blk r = some b) {vs vs' : Array Value} {f : Nat × Nat}
    (hw : w.heap[b]? = some (.cells vs el f)) (hsz : vs'.size = vs.size) (hrel : ObjRel G (.cells el c') (.cells vs' el f)) :
    Post G s w (G.addBlk s.next b) ((s.del r).alloc (.cells el c')) (setBlk w b (.cells vs' el f)) := by
  obtain ⟨f1, f2, f3⟩ := h.fresh s.next (Nat.le_refl _)
  have hlt := h.blkLt r b hb
  have hrn : r ≠ s.next := fun e => by rw [e, f1] at hr; cases hr
  have hd := h.del r
  have live : ∀ q, (s.del r).heap.get q ≠ none → q ≠ r ∧ s.heap.get q ≠ none := fun q hq => by
    rw [St.get_del] at hq
    split at hq
    · exact absurd rfl hq
    · rename_i e; exact ⟨e, hq⟩
  have nob : ∀ q, (s.del r).heap.get q ≠ none → G.blk q ≠ some b := fun q hq hqb => (live q hq).1 (h.blkInj q r b (live q hq).2 (by rw [hr]; simp) hqb hb)
  have other : ∀ d, d ≠ b → (setBlk w b (.cells vs' el f)).heap[d]? = w.heap[d]? := fun d hd => setBlk_other w b d _ hd
  have same := setBlk_same w b (.cells vs' el f) hlt
  have hI1 : Inv G (s.del r) (setBlk w b (.cells vs' el f)) := by
    refine { hd with imm := ?_, obj := ?_, tok := ?_, tokEl := ?_, blkLt := ?_, tokLt := ?_, room := ?_ }
    · intro d o v hv
      rw [cell_of_blk (other d (fun e => by subst e; rw [h.blkImm r d o hb] at hv; cases hv))]
      exact h.imm d o v hv
    · intro q ob hq ht
      obtain ⟨d, o, e1, e2, e3⟩ := hd.obj q ob hq ht
      exact ⟨d, o, e1, by rw [other d (fun e => by subst e; exact nob q (by rw [hq]; simp) e1)]; exact e2, e3⟩
    · intro q el0 hq
      obtain ⟨d, e, k, us, el', lo, hi, e1, e2, e3⟩ := hd.tok q el0 hq
      exact ⟨d, e, k, us, el', lo, hi, e1, by rw [other d (fun e0 => by subst e0; exact h.blkTok r q d e k hb e1)]; exact e2, e3⟩
    · intro q el' x d e k hq hg
      rw [other d (fun e0 => by subst e0; exact h.blkTok r q d e k hb hg)]
      exact hd.tokEl q el' x d e k hq hg
    · intro q d hq; rw [setBlk_size]; exact h.blkLt q d hq
    · intro q d e k hq; rw [setBlk_size]; exact h.tokLt q d e k hq
    · intro d K hK
      obtain ⟨⟨us, el', lo, hi, e1, e2⟩, e5⟩ := h.room d K hK
      refine ⟨?_, e5⟩
      by_cases e : d = b
      · subst e
        rw [hw] at e1
        cases e1
        exact ⟨vs', el, lo, hi, same, by rw [hsz]; exact e2⟩
      · exact ⟨us, el', lo, hi, by rw [other d e]; exact e1, e2⟩
  have hB := hI1.bump (n := s.next + 1) (by show s.next ≤ s.next + 1; omega)
  obtain ⟨hA, hle⟩ := hB.addBlk (r := s.next) (b := b) f2 (by show (s.del r).heap.get s.next = none; rw [St.get_del, f1]; split <;> rfl) (by rw [setBlk_size]; exact hlt) (fun o => h.blkImm r b o hb) (fun q e k hq => h.blkTok r q b e k hb hq) (by simp)
  have hI2 : Inv (G.addBlk s.next b) ((s.del r).alloc (.cells el c')) (setBlk w b (.cells vs' el f)) := by
    refine hA.reg (r := s.next) (b := b) (ob := .cells el c') (o := .cells vs' el f) (fun q => St.get_alloc (s.del r) _ q) (by simp [St.alloc, St.del]) (by simp [St.alloc, St.del])
      (by show (s.del r).heap.get s.next = none; rw [St.get_del, f1]; split <;> rfl) (by simp [Gh.addBlk]) rfl same (hrel.mono hle) (fun q hq => ?_)
    simp only [Gh.addBlk] at hq
    show (s.del r).heap.get q = none
    split at hq
    · rename_i e; subst e; rw [St.get_del, f1]; split <;> rfl
    · cases hx : (s.del r).heap.get q with
      | none => rfl
      | some ob => exact absurd hq (nob q (by rw [hx]; simp))
  refine ⟨hle, hI2, ⟨by rw [setBlk_size]; exact Nat.le_refl _, rfl, rfl, rfl, fun d _ hd _ => other d (fun e => by subst e; have := hd r hb; rw [hr] at this; cases this)⟩, fun q d hq => ?_, fun q d e k hq => .inl ⟨q, e, k, hq⟩, by simp [St.alloc, St.del], fun q hq hq0 => ?_, fun _ _ _ h _ _ => h⟩
  · simp only [Gh.addBlk] at hq
    split at hq
    · rename_i e; cases hq; exact .inr ⟨by rw [e]; exact Nat.le_refl _, .inl ⟨r, hb, by rw [hr]; simp⟩⟩
    · exact .inl hq
  · rw [St.get_alloc, if_neg (by show q ≠ s.next; omega), St.get_del, hq0]
    split <;> rfl

/-- The head of a row that may grow is read as a text for good. -/
theorem Post.freeze {G : Gh} {s : St} {w : World} (h : Inv G s w) {r b e k o n : Nat} (hg : G.tok r = some (b, e, k)) (hon : o + n = e) :
    Post G s w G s (w.freeze ⟨b, o, none⟩ n) := by
  by_cases h0 : n = 0
  · have : w.freeze ⟨b, o, none⟩ n = w := by simp [World.freeze, h0]
    rw [this]; exact Post.refl h
  have hheap : ∀ c, (w.freeze ⟨b, o, none⟩ n).heap[c]? = if b = c then (w.heap[c]?).map (fun | .cells x el (lo, hi) => .cells x el (if lo == hi then (o, o + n) else (min lo o, max hi (o + n))) | y => y) else w.heap[c]? := by
    intro c
    simp only [World.freeze, h0, if_false, Array.getElem?_modify]
    split <;> rfl
  have other : ∀ c, c ≠ b → (w.freeze ⟨b, o, none⟩ n).heap[c]? = w.heap[c]? := fun c hc => by rw [hheap, if_neg (Ne.symm hc)]
  have size : (w.freeze ⟨b, o, none⟩ n).heap.size = w.heap.size := by simp [World.freeze, h0]
  have cell : ∀ c i, (w.freeze ⟨b, o, none⟩ n).cell? ⟨c, i, none⟩ = w.cell? ⟨c, i, none⟩ := by
    intro c i
    by_cases hc : c = b
    · subst hc
      simp only [World.cell?, hheap, if_true]
      cases hb : w.heap[c]? with
      | none => rfl
      | some ob =>
        cases ob <;> simp only [Option.map_some]
    · exact cell_of_blk (other c hc)
  refine ⟨Gh.le.refl G, ?_, ⟨by rw [size]; exact Nat.le_refl _, by simp [World.freeze, h0], by simp [World.freeze, h0], by simp [World.freeze, h0], fun c _ _ hc => other c (fun e0 => by subst e0; exact hc r e k hg)⟩, fun _ _ h => .inl h, fun r _ e k h => .inl ⟨r, e, k, h⟩, Nat.le_refl _, fun _ _ h => h, fun _ _ _ h _ _ => h⟩
  have hR : ∀ c K, G.room c = some K → (∃ vs el lo hi, (w.freeze ⟨b, o, none⟩ n).heap[c]? = some (.cells vs el (lo, hi)) ∧ K * G.sz el ≤ vs.size ∧ (K * G.sz el ≤ lo ∨ hi ≤ lo)) ∧ ∀ r e k, G.tok r ≠ some (c, e, k) := fun c K hK => by
    obtain ⟨⟨vs, el, lo, hi, h1, h2⟩, h5⟩ := h.room c K hK
    have hcb : c ≠ b := fun e0 => by subst e0; exact h5 _ _ _ hg
    exact ⟨⟨vs, el, lo, hi, by rw [other c hcb]; exact h1, h2⟩, h5⟩
  refine { h with imm := ?_, obj := ?_, tok := ?_, tokEl := ?_, blkLt := ?_, tokLt := ?_, room := hR }
  · intro c i v hv; rw [cell]; exact h.imm c i v hv
  · intro q ob hq ht
    obtain ⟨c, ob', e1, e2, e3⟩ := h.obj q ob hq ht
    exact ⟨c, ob', e1, by rw [other c (fun e0 => by subst e0; exact h.blkTok q r c e k e1 hg)]; exact e2, e3⟩
  · intro q el0 hq
    obtain ⟨c, e', k', vs, el, lo, hi, e1, e2, e3, e4, e5, e6⟩ := h.tok q el0 hq
    by_cases hc : c = b
    · subst hc
      have htop := h.tokTop q r c e' k' e k el0 hq e1 hg
      refine ⟨c, e', k', vs, el, (if lo == hi then (o, o + n) else (min lo o, max hi (o + n))).1, (if lo == hi then (o, o + n) else (min lo o, max hi (o + n))).2, e1, ?_, e3, e4, ?_, e6⟩
      · rw [hheap, if_pos rfl, e2]; rfl
      · split <;> simp only <;> omega
    · exact ⟨c, e', k', vs, el, lo, hi, e1, by rw [other c hc]; exact e2, e3, e4, e5, e6⟩
  · intro q el x c e' k' hq hgq
    obtain ⟨vs, f, hc⟩ := h.tokEl q el x c e' k' hq hgq
    obtain ⟨lo, hi⟩ := f
    by_cases hcb : b = c
    · exact ⟨vs, _, by rw [hheap, if_pos hcb, hc]; rfl⟩
    · exact ⟨vs, _, by rw [hheap, if_neg hcb]; exact hc⟩
  · intro q c hc; rw [size]; exact h.blkLt q c hc
  · intro q c e' k' hc; rw [size]; exact h.tokLt q c e' k' hc

end GoE

/- One operation of the model does what the evaluator says: operands, numbers, addresses, loads and stores. No condition. -/
namespace GoE
open Go

section
variable {P : Program} {L : Low} {G : Gh} {s : St} {w : World} {tmps : List AV} {a : Act}

theorem lowArg_sound (hg : GlOK L G) (hT : Tm G tmps a.tmps) {x : Operand} {e : EArg} (h : lowArg L x = some e) : V G (e.ev tmps) (a.eval x) := by
  cases x with
  | tmp t => simp only [lowArg, Option.some.injEq] at h; subst h; exact hT t
  | const v =>
    simp only [lowArg, Option.map_eq_some_iff] at h
    obtain ⟨y, hy, rfl⟩ := h
    exact ofValue_sound G v y hy
  | global g =>
    simp only [lowArg, Option.map_eq_some_iff] at h
    obtain ⟨y, hy, rfl⟩ := h
    exact hg.1 g y hy
  | func f =>
    simp only [lowArg, Option.some.injEq] at h; subst h
    exact .func (.func f) [] [] #[] #[] rfl rfl (fun i a v h => by simp at h) (fun i a v h => by simp at h)

theorem lowArgs_sound (hg : GlOK L G) (hT : Tm G tmps a.tmps) : ∀ {xs : List Operand} {es : List EArg}, lowArgs L xs = some es → VL G (es.map (EArg.ev tmps)) (xs.map a.eval)
  | [], es, h => by simp only [lowArgs, Option.some.injEq] at h; subst h; exact VL.nil G
  | x :: xs, es, h => by
    simp only [lowArgs] at h
    cases h1 : lowArg L x with
    | none => simp [h1] at h
    | some y =>
      cases h2 : lowArgs L xs with
      | none => simp [h1, h2] at h
      | some ys =>
        simp only [h1, h2, Option.some.injEq] at h
        subst h
        exact VL.cons (lowArg_sound hg hT h1) (lowArgs_sound hg hT h2)

/-- What an operation must come to. -/
def ValOK (G : Gh) (s : St) (w : World) (v : AV) (s' : St) (r : Result Next) : Prop :=
  ∃ v' w' G', (r = .ok (.value v') w' ∨ (r = .ok .skip w' ∧ v' = Go.undef)) ∧ Post G s w G' s' w' ∧ V G' v v'

def OpOK (P : Program) (G : Gh) (s : St) (w : World) (res : ORes) (r : Result Next) : Prop :=
  match res with
  | .val v => ValOK G s w v s r
  | .new ob mk => ∃ v' w' o, r = .ok (.value v') w' ∧ Pushed w w' o ∧ ob.isTok = false ∧ ∀ ρ G', G.le G' → G'.blk ρ = some w.heap.size → V G' (mk ρ) v' ∧ ObjRel G' ob o
  | .eff v s' => ValOK G s w v s' r
  | .panic v => ∃ v' w' G', r = .halt (.panic v') w' ∧ Post G s w G' s w' ∧ V G' v v'
  | .call f args => ∃ args', r = (callFunc f args').run P w ∧ VL G args args'.toList
  | .defer f args => ∃ d, r = .ok (.defer d) w ∧ (∀ fn first cap, f = .func fn first cap → ∃ (c' : Array Value) (f' : List Value), d.target = .fn fn c' ∧ VL G cap c'.toList ∧ d.args.toList = f' ∧ VL G (first ++ args) f')
  | .recover => r = .ok .recover w
  | .fail _ => True

theorem ValOK.same (hi : Inv G s w) {v : AV} {v' : Value} (h : V G v v') {r : Result Next} (hr : r = .ok (.value v') w) : ValOK G s w v s r :=
  ⟨v', w, G, .inl hr, Post.refl hi, h⟩

theorem exec_value (x : Sem Value) {v : Value} {w' : World} (h : x.run P w = .ok v w') : (do pure (.value (← x)) : Sem Next).run P w = .ok (.value v) w' := by simp [h]
theorem exec_halt (x : Sem Value) {e : Halt} {w' : World} (h : x.run P w = .halt e w') : (do pure (.value (← x)) : Sem Next).run P w = .halt e w' := by simp [h]

/-! Panics of the run-time: their values are of no interest, their types are. -/

def rtOf (P : Program) : Rt := { bounds := P.rt.boundsError, error := P.rt.errorString, plain := P.rt.plainError }

theorem bounds_run {α : Type} (hi : Inv G s w) (k : IntKind) (x y : Int) (code : BoundsCode) :
    ∃ v' w', (boundsPanic k x y code : Sem α).run P w = .halt (.panic v') w' ∧ Post G s w G s w' ∧ V G (.iface P.rt.boundsError .junk) v' := by
  unfold boundsPanic
  by_cases h : (k != .u64 && decide (0 ≤ x) && decide (x ≤ 31)) = true
  · refine ⟨.iface P.rt.boundsError (.agg #[.int .i64 (IntKind.i64.wrap x), .int .i64 y, .bool ((Question.extern "runtime.boundsError.signed" 2).cut (w.tape w.drawn (.extern "runtime.boundsError.signed" 2)) == 1), .int .u8 code.toNat]), { w with drawn := w.drawn + 1 }, ?_, Post.same hi rfl rfl rfl rfl, .iface _ _ _ (.junk _)⟩
    simp [h, runtimePanic, Question.forced]
  · refine ⟨.iface P.rt.boundsError (.agg #[.int .i64 (IntKind.i64.wrap x), .int .i64 y, .bool (k != .u64), .int .u8 code.toNat]), w, ?_, Post.refl hi, .iface _ _ _ (.junk _)⟩
    simp [h, runtimePanic]

theorem bounds_ok (hi : Inv G s w) (x : Sem Value) (k : IntKind) (n y : Int) (code : BoundsCode) (hx : x.run P w = (boundsPanic k n y code : Sem Value).run P w) :
    OpOK P G s w (pBounds (rtOf P)) ((do pure (.value (← x)) : Sem Next).run P w) := by
  obtain ⟨v', w', h1, h2, h3⟩ := bounds_run (α := Value) (P := P) hi k n y code
  exact ⟨v', w', G, exec_halt x (by rw [hx, h1]), h2, h3⟩

theorem error_ok (hi : Inv G s w) {r : Result Next} (m : String) (h : r = .halt (.panic (.iface P.rt.errorString (strVal m))) w) : OpOK P G s w (pError (rtOf P)) r :=
  ⟨_, w, G, h, Post.refl hi, .iface _ _ _ (.junk _)⟩

/-! Memory read and written. -/

theorem V.storable_cells {x : AV} {v : Value} (h : V G x v) (hs : x.storable = true) : VL G x.cells v.cells.toList ∧ ∀ u ∈ v.cells.toList, u.oneCell' = true := by
  have one : ∀ (y : AV) (u : Value), V G y u → u.oneCell' = true → VL G [y] [u] ∧ ∀ z ∈ [u], z.oneCell' = true := fun y u hy hu =>
    ⟨VL.cons hy (VL.nil G), fun z hz => by simp at hz; subst hz; exact hu⟩
  cases h with
  | junk => simp [AV.storable] at hs
  | undef => simp [AV.storable] at hs
  | tuple => simp [AV.storable] at hs
  | agg cs vs hl hv h1 =>
    refine ⟨⟨by simpa [AV.cells, Value.cells] using hl, fun i c v hc hv' => hv i c v hc (by simpa [Value.cells] using hv')⟩, fun u hu => ?_⟩
    simp only [Value.cells] at hu
    obtain ⟨i, hi, rfl⟩ := List.getElem_of_mem hu
    exact h1 i _ (by simp)
  | bool b => exact one _ _ (.bool b) rfl
  | int k n => exact one _ _ (.int k n) rfl
  | str l => exact one _ _ (.str l) rfl
  | nilptr => exact one _ _ .nilptr rfl
  | ptr r off b h => exact one _ _ (.ptr r off b h) rfl
  | iptr cells off b o vs hl hi hv h1 => exact one _ _ (.iptr cells off b o vs hl hi hv h1) rfl
  | tptr r cells b o k vs hl ht hi hv h1 => exact one _ _ (.tptr r cells b o k vs hl ht hi hv h1) rfl
  | nilslice => exact one _ _ .nilslice rfl
  | slice sz t es b o cap vs hsz hes hl hi hv h1 hcap hx ht => exact one _ _ (.slice sz t es b o cap vs hsz hes hl hi hv h1 hcap hx ht) rfl
  | arr r off len cap co b off' h hc hcap ho hk => exact one _ _ (.arr r off len cap co b off' h hc hcap ho hk) rfl
  | map r b h => exact one _ _ (.map r b h) rfl
  | nilmap => exact one _ _ .nilmap rfl
  | func fn f c f' c' hf hc h1 h2 => exact one _ _ (.func fn f c f' c' hf hc h1 h2) rfl
  | nilFunc => exact one _ _ .nilFunc rfl
  | iface t a v h => exact one _ _ (.iface t a v h) rfl
  | nilIface => exact one _ _ .nilIface rfl

theorem isAgg_run {t : TypeId} {d : TypeDesc} (h : P.underlying t = some d) : (isAgg t).run P w = .ok (isAggD d) w := by
  unfold isAgg
  simp only [Sem.run_bind, run_underlying h, Result.andThen_ok]
  cases d <;> rfl

theorem ltake_spec {l r : List AV} {off n : Nat} (h : ltake l off n = some r) : off + n ≤ l.length ∧ r = (l.drop off).take n := by
  unfold ltake at h
  split at h
  · rename_i h1; cases h; exact ⟨h1, rfl⟩
  · cases h

/-- The cells that an address leads to. -/
theorem loadL_cells (hi : Inv G s w) {av : AV} {v : Value} (hv : V G av v) {n : Nat} {cs : List AV} (h : loadL s av n = some cs) :
    ∃ b o vs, v = .pointer (some ⟨b, o, none⟩) ∧ VL G cs vs ∧ vs.length = n ∧ (∀ i u, vs[i]? = some u → w.cell? ⟨b, o + i, none⟩ = some u) ∧ ∀ u ∈ vs, u.oneCell' = true := by
  cases hv <;> simp only [loadL] at h <;> try cases h
  case ptr r off b hb =>
    cases hg : s.heap.get r with
    | none => simp [hg] at h
    | some ob =>
      cases ob <;> simp only [hg] at h <;> try cases h
      case cells e c =>
        obtain ⟨b', o, e1, e2, e3⟩ := hi.obj r _ hg rfl
        rw [hb] at e1; cases e1
        obtain ⟨vs, lo, hh, rfl, g1, g2, g3⟩ := e3
        obtain ⟨k1, rfl⟩ := ltake_spec h
        refine ⟨b, off, (vs.toList.drop off).take n, rfl, ⟨?_, ?_⟩, ?_, ?_, ?_⟩
        · simp; omega
        · intro i x u hx hu
          rw [List.getElem?_take] at hx hu
          split at hx
          · rename_i hin
            rw [if_pos hin] at hu
            rw [List.getElem?_drop] at hx hu
            exact (g2 _ x u hx (by simpa using hu)).1
          · cases hx
        · simp; omega
        · intro i u hu
          rw [List.getElem?_take] at hu
          split at hu
          · rw [List.getElem?_drop] at hu
            rw [cell_cells e2]
            simpa using hu
          · cases hu
        · intro u hu
          obtain ⟨i, hlt, rfl⟩ := List.getElem_of_mem hu
          have hlt' : i < n := by simp at hlt; omega
          have hlc : off + i < c.length := by omega
          have := g2 (off + i) c[off + i] (vs.toList[off + i]'(by simp; omega)) (List.getElem?_eq_getElem hlc) (by first | (simp; done) | (simp; exact ⟨by omega, rfl⟩))
          simp only [List.getElem_take, List.getElem_drop]
          exact this.2
  case iptr cells off b o vs hl him hv h1 =>
    obtain ⟨k1, rfl⟩ := ltake_spec h
    refine ⟨b, o + off, (vs.drop off).take n, rfl, ?_, ?_, ?_, ?_⟩
    · exact (VL.drop ⟨hl, hv⟩ off).take n
    · simp; omega
    · intro i u hu
      rw [List.getElem?_take] at hu
      split at hu
      · rw [List.getElem?_drop] at hu
        have := hi.imm b _ u (him _ u hu)
        rwa [show o + (off + i) = o + off + i by omega] at this
      · cases hu
    · intro u hu
      obtain ⟨i, hlt, rfl⟩ := List.getElem_of_mem hu
      simp only [List.getElem_take, List.getElem_drop]
      exact h1 _ _ (List.getElem?_eq_getElem _)

theorem VL.agg {cs : List AV} {vs : List Value} (h : VL G cs vs) (h1 : ∀ u ∈ vs, u.oneCell' = true) : V G (.agg cs) (.agg vs.toArray) :=
  .agg cs _ (by simpa using h.1) (fun i c v hc hv => h.2 i c v hc (by simpa using hv)) (fun i v hv => h1 v (List.mem_of_getElem? (by simpa using hv)))

theorem loadVar_run {t : TypeId} {ti : TI} {i : TypeInfo} (ht : TyOK P ti t i) {b o : Nat} {cs : List AV} {vs : List Value} (hv : VL G cs vs) (hn : vs.length = ti.size)
    (hc : ∀ i u, vs[i]? = some u → w.cell? ⟨b, o + i, none⟩ = some u) (h1 : ∀ u ∈ vs, u.oneCell' = true) {res : AV} (hr : shapeV ti.agg cs = some res) :
    ∃ v', (loadVar t ⟨b, o, none⟩).run P w = .ok v' w ∧ V G res v' := by
  have hagg := isAgg_run (P := P) (w := w) ht.desc
  rw [← ht.agg] at hagg
  have hsz : (Go.sizeOf t).run P w = .ok ti.size w := by simp [Go.sizeOf, typeInfo, ht.info, ht.size]
  cases hb : ti.agg with
  | true =>
    rw [hb] at hagg hr
    simp only [shapeV, if_true, Option.some.injEq] at hr
    subst hr
    refine ⟨.agg vs.toArray, ?_, VL.agg hv h1⟩
    have hl := run_loadCells_list (P := P) (w := w) ⟨b, o, none⟩ vs (fun j v hj => by rw [Addr_add]; exact hc j v hj)
    simp only [loadVar, Sem.run_bind, hagg, Result.andThen_ok, if_true, hsz]
    rw [hn] at hl
    simp [hl]
  | false =>
    rw [hb] at hagg hr
    simp only [shapeV, Bool.false_eq_true, if_false] at hr
    split at hr
    · rename_i c
      simp only [Option.some.injEq] at hr
      subst hr
      obtain ⟨v, hv0, hvc⟩ := hv.get (i := 0) (c := c) (by simp)
      refine ⟨v, ?_, hvc⟩
      have hcell := hc 0 v hv0
      simp only [Nat.add_zero] at hcell
      simp only [loadVar, Sem.run_bind, hagg, Result.andThen_ok, Bool.false_eq_true, if_false]
      simp [hcell]
    · cases hr

theorem load_ok (hi : Inv G s w) {t : TypeId} {ti : TI} {i : TypeInfo} (ht : TyOK P ti t i) {av : AV} {v : Value} (hv : V G av v) {res : AV}
    (h : (loadL s av ti.size).bind (shapeV ti.agg) = some res) : ∃ v', (Instr.loadAt t v).run P w = .ok v' w ∧ V G res v' := by
  obtain ⟨cs, h1, h2⟩ := Option.bind_eq_some_iff.1 h
  obtain ⟨b, o, vs, rfl, g1, g2, g3, g4⟩ := loadL_cells hi hv h1
  obtain ⟨v', k1, k2⟩ := loadVar_run (P := P) (w := w) ht g1 g2 g3 g4 h2
  exact ⟨v', by simp [Instr.loadAt, Instr.sureAddr, k1], k2⟩

theorem lsetMany_get : ∀ (vs l : List AV) (o i : Nat), (lsetMany l o vs)[i]? = if o ≤ i ∧ i < o + vs.length ∧ i < l.length then vs[i - o]? else l[i]?
  | [], l, o, i => by rw [lsetMany, if_neg (by simp; omega)]
  | v :: vs, l, o, i => by
    rw [lsetMany, lsetMany_get vs _ (o + 1) i, lset_eq]
    by_cases h : o + 1 ≤ i ∧ i < o + 1 + vs.length ∧ i < l.length
    · rw [if_pos (by simpa using h), if_pos (by simp; omega)]
      obtain ⟨k, hk⟩ : ∃ k, i - o = k + 1 := ⟨i - o - 1, by omega⟩
      rw [hk, show i - (o + 1) = k by omega]
      simp
    · rw [if_neg (by simpa using h)]
      by_cases e : i = o
      · subst e
        by_cases hl : i < l.length
        · rw [if_pos (by simp; omega)]
          simp [hl]
        · rw [if_neg (by omega)]
          simp [hl]
      · rw [List.getElem?_set_ne (Ne.symm e), if_neg (by simp at h ⊢; omega)]

theorem lsetMany_length : ∀ (vs l : List AV) (o : Nat), (lsetMany l o vs).length = l.length
  | [], _, _ => rfl
  | v :: vs, l, o => by rw [lsetMany, lsetMany_length, lset_eq]; simp

/-- Cells of an object written, in both memories. -/
theorem ObjRel.setMany {e : TypeId} {c : List AV} {vs : Array Value} {lo hh : Nat} (h : ObjRel G (.cells e c) (.cells vs e (lo, hh))) {o : Nat} {ds : List AV} {us : List Value} (hd : VL G ds us)
    (h1 : ∀ u ∈ us, u.oneCell' = true) (hfit : o + ds.length ≤ c.length) : ObjRel G (.cells e (lsetMany c o ds)) (.cells (arrSet vs o us) e (lo, hh)) := by
  obtain ⟨vs', lo', hh', e0, g1, g2, g3⟩ := h
  cases e0
  refine ⟨arrSet vs o us, lo, hh, rfl, by rw [lsetMany_length, arrSet_size]; exact g1, fun i x v hx hv => ?_, by rw [lsetMany_length]; exact g3⟩
  rw [lsetMany_get] at hx
  rw [arrSet_get] at hv
  rw [hd.1] at hv
  by_cases hin : o ≤ i ∧ i < o + ds.length
  · rw [if_pos ⟨hin.1, hin.2, by omega⟩] at hx
    rw [if_pos ⟨hin.1, hin.2, by omega⟩] at hv
    exact ⟨hd.2 _ x v hx hv, h1 v (List.mem_of_getElem? hv)⟩
  · rw [if_neg (fun hh => hin ⟨hh.1, hh.2.1⟩)] at hx hv
    exact g2 i x v hx hv

/-- A row of cells of an object is written. -/
theorem store_cells (hi : Inv G s w) {r off b : Nat} {e : TypeId} {c : List AV} (hr : s.heap.get r = some (.cells e c)) (hb : G.blk r = some b) {ds : List AV} {us : List Value} (hd : VL G ds us)
    (h1 : ∀ u ∈ us, u.oneCell' = true) (hfit : off + ds.length ≤ c.length) :
    ∃ w', (storeCells ⟨b, off, none⟩ us).run P w = .ok () w' ∧ Post G s w G (s.upd r (.cells e (lsetMany c off ds))) w' := by
  obtain ⟨b', o, e1, e2, e3⟩ := hi.obj r _ hr rfl
  rw [hb] at e1; cases e1
  have e3' := e3
  obtain ⟨vs, lo, hh, rfl, g1, g2, g3⟩ := e3
  refine ⟨_, run_storeCells_blk b off e lo hh us 0 w vs e2 (by rw [hd.1]; omega) (fun j hj => by rw [hd.1] at hj; omega) h1, ?_⟩
  rw [Nat.add_zero]
  exact Post.write hi hr rfl hb rfl (e3'.setMany hd h1 hfit) (fun vs' el f hw => by rw [e2] at hw; cases hw; exact ⟨_, rfl, by rw [arrSet_size]⟩)

theorem store_ok (hi : Inv G s w) {t : TypeId} {ti : TI} {i : TypeInfo} (ht : TyOK P ti t i) {av x : AV} {v u : Value} (hv : V G av v) (hx : V G x u) {r off : Nat} (hav : av = .ptr r off)
    {e : TypeId} {c : List AV} (hr : s.heap.get r = some (.cells e c)) (hl : x.cells.length = ti.size) (hfit : off + ti.size ≤ c.length) (hs : x.storable = true) :
    ∃ w', (Instr.storeAt t v u).run P w = .ok () w' ∧ Post G s w G (s.upd r (.cells e (lsetMany c off x.cells))) w' := by
  subst hav
  cases hv with
  | ptr _ _ b hb =>
    obtain ⟨hc, h1⟩ := hx.storable_cells hs
    obtain ⟨w', k1, k2⟩ := store_cells (P := P) (off := off) hi hr hb hc h1 (by rw [hl]; exact hfit)
    refine ⟨w', ?_, k2⟩
    have hsz : (Go.sizeOf t).run P w = .ok ti.size w := by simp [Go.sizeOf, typeInfo, ht.info, ht.size]
    have hlen : u.cells.size = ti.size := by have := hc.1; simp at this; omega
    simp [Instr.storeAt, Instr.sureAddr, storeVar, hsz, hlen, k1]
end
end GoE

/- One operation of the model does what the evaluator says: numbers, texts, comparisons. No condition. -/
namespace GoE
open Go

theorem toList_loop (s : ByteArray) : ∀ (n i : Nat) (r : List UInt8), s.size - i = n → ByteArray.toList.loop s i r = r.reverse ++ s.data.toList.drop i := by
  intro n
  induction n with
  | zero =>
    intro i r h
    rw [ByteArray.toList.loop, if_neg (by omega)]
    have : s.data.toList.length ≤ i := by rw [Array.length_toList]; have : s.size = s.data.size := rfl; omega
    rw [List.drop_eq_nil_of_le this]
    simp
  | succ n ih =>
    intro i r h
    have hi : i < s.size := by omega
    rw [ByteArray.toList.loop, if_pos hi, ih (i + 1) _ (by omega)]
    have hd : i < s.data.size := hi
    have hl : i < s.data.toList.length := by simpa using hd
    rw [List.drop_eq_getElem_cons hl]
    have hg : s.get! i = s.data[i] := by
      show s.data[i]! = s.data[i]
      rw [getElem!_pos s.data i hd]
    simp [hg]

theorem toList_data (s : ByteArray) : s.toList = s.data.toList := by
  rw [ByteArray.toList, toList_loop s _ 0 [] rfl]; simp

theorem size_data (s : ByteArray) : s.size = s.data.toList.length := (Array.length_toList (xs := s.data)).symm

theorem V.str_of (G : Gh) (l : List UInt8) : V G (.str l) (.string ⟨l.toArray⟩) := by
  have := V.str (G := G) ⟨l.toArray⟩
  simpa using this

theorem V.str_eq {G : Gh} {l : List UInt8} {s : ByteArray} (h : s.data.toList = l) : V G (.str l) (.string s) := by subst h; exact .str s

section
variable {P : Program} {L : Low} {G : Gh} {s : St} {w : World} {tmps : List AV} {a : Act}

/-- A computation that hands back a value and leaves the world alone, as the evaluator says. -/
def PureOK (P : Program) (G : Gh) (s : St) (w : World) (res : ORes) (x : Sem Value) : Prop :=
  match res with
  | .val v => ∃ v', x.run P w = .ok v' w ∧ V G v v'
  | .panic v => ∃ v' w', x.run P w = .halt (.panic v') w' ∧ Post G s w G s w' ∧ V G v v'
  | .fail _ => True
  | _ => False

theorem PureOK.op (hi : Inv G s w) {res : ORes} {x : Sem Value} (h : PureOK P G s w res x) : OpOK P G s w res ((do pure (.value (← x)) : Sem Next).run P w) := by
  cases res with
  | val v => obtain ⟨v', h1, h2⟩ := h; exact ValOK.same hi h2 (exec_value x h1)
  | panic v => obtain ⟨v', w', h1, h2, h3⟩ := h; exact ⟨v', w', G, exec_halt x h1, h2, h3⟩
  | fail _ => trivial
  | new _ _ => exact h.elim
  | eff _ _ => exact h.elim
  | defer _ _ => exact h.elim
  | call _ _ => exact h.elim
  | recover => exact h.elim

theorem PureOK.bounds (hi : Inv G s w) {x : Sem Value} (k : IntKind) (n y : Int) (code : BoundsCode) (hx : x.run P w = (boundsPanic k n y code : Sem Value).run P w) : PureOK P G s w (pBounds (rtOf P)) x := by
  obtain ⟨v', w', h1, h2, h3⟩ := bounds_run (α := Value) (P := P) hi k n y code
  exact ⟨v', w', by rw [hx, h1], h2, h3⟩

theorem PureOK.error (hi : Inv G s w) {x : Sem Value} (m : String) (hx : x.run P w = .halt (.panic (.iface P.rt.errorString (strVal m))) w) : PureOK P G s w (pError (rtOf P)) x :=
  ⟨_, w, hx, Post.refl hi, .iface _ _ _ (.junk _)⟩

theorem eqGuard_num {op : BinOp} {t : TypeId} {x y : Operand} {u v : Value} (h : (u.oneCell' && v.oneCell') = true) (hn : u ≠ .nilIface ∨ v ≠ .nilIface) :
    (eqGuard op t x y u v).run P w = .ok () w := by
  unfold eqGuard
  cases op <;> simp <;> (split <;> simp_all [Value.oneCell'])

theorem bin_ok (hi : Inv G s w) {op : BinOp} {t : TypeId} {x y : Operand} {ax ay : AV} {u v : Value} (hx : V G ax u) (hy : V G ay v) :
    PureOK P G s w (binOpV (rtOf P) op ax ay) (do eqGuard op t x y u v; binOp op t u v) := by
  have hg : ∀ {res : ORes} {z : Sem Value}, (u.oneCell' && v.oneCell') = true → (u ≠ .nilIface ∨ v ≠ .nilIface) → PureOK P G s w res z → PureOK P G s w res (do eqGuard op t x y u v; z) := by
    intro res z h1 h2 h
    have e : (do eqGuard op t x y u v; z : Sem Value).run P w = z.run P w := by simp [eqGuard_num (P := P) (w := w) (op := op) (t := t) (x := x) (y := y) h1 h2]
    unfold PureOK at h ⊢
    rw [e]; exact h
  cases hx <;> cases hy <;> try trivial
  case int.int k n k' m =>
    refine hg rfl (.inl (by simp)) ?_
    simp only [binOpV]
    split
    · rename_i hk
      have same : ∀ {o : BinOp}, o ≠ .shl → o ≠ .shr → k = k' ∨ o = .shl ∨ o = .shr → k = k' := fun h1 h2 h => by rcases h with h | h | h <;> simp_all
      cases op <;> simp only [intArithV]
      case add => obtain rfl := same (by simp) (by simp) hk; exact ⟨_, by simp [binOp, Op.intArith], .int _ _⟩
      case sub => obtain rfl := same (by simp) (by simp) hk; exact ⟨_, by simp [binOp, Op.intArith], .int _ _⟩
      case mul => obtain rfl := same (by simp) (by simp) hk; exact ⟨_, by simp [binOp, Op.intArith], .int _ _⟩
      case quo =>
        obtain rfl := same (by simp) (by simp) hk
        split
        · rename_i h0; exact PureOK.error hi "integer divide by zero" (by simp [binOp, Op.intDiv, h0, runtimePanic])
        · rename_i h0; exact ⟨_, by simp [binOp, Op.intDiv, h0], .int _ _⟩
      case rem =>
        obtain rfl := same (by simp) (by simp) hk
        split
        · rename_i h0; exact PureOK.error hi "integer divide by zero" (by simp [binOp, Op.intDiv, h0, runtimePanic])
        · rename_i h0; exact ⟨_, by simp [binOp, Op.intDiv, h0], .int _ _⟩
      case and => obtain rfl := same (by simp) (by simp) hk; exact ⟨_, by simp only [binOp, Op.intBits]; simp, .int _ _⟩
      case or => obtain rfl := same (by simp) (by simp) hk; exact ⟨_, by simp only [binOp, Op.intBits]; simp, .int _ _⟩
      case xor => obtain rfl := same (by simp) (by simp) hk; exact ⟨_, by simp only [binOp, Op.intBits]; simp, .int _ _⟩
      case andNot => obtain rfl := same (by simp) (by simp) hk; exact ⟨_, by simp only [binOp, Op.intBits]; simp, .int _ _⟩
      case shl =>
        split
        · rename_i h0; exact PureOK.error hi "negative shift amount" (by simp [binOp, Op.shift, h0, runtimePanic])
        · rename_i h0; exact ⟨_, by simp [binOp, Op.shift, h0], .int _ _⟩
      case shr =>
        split
        · rename_i h0; exact PureOK.error hi "negative shift amount" (by simp [binOp, Op.shift, h0, runtimePanic])
        · rename_i h0; exact ⟨_, by simp [binOp, Op.shift, h0], .int _ _⟩
      all_goals
        obtain rfl := same (by simp) (by simp) hk
        exact ⟨_, by simp [binOp, Op.intCmp], .bool _⟩
    · trivial
  case str.str x y =>
    refine hg rfl (.inl (by simp)) ?_
    have e1 := toList_data x
    have e2 := toList_data y
    have beq_dec : ∀ l m : List UInt8, (l == m) = decide (l = m) := fun l m => by
      by_cases h : l = m
      · subst h; simp
      · simp [h]
    simp only [binOpV]
    cases op <;> simp only [strOpV] <;> try trivial
    case add =>
      split
      · rename_i h
        refine ⟨.string (x ++ y), run_string_add_sum w x y (by rw [size_data, size_data]; omega), V.str_eq ?_⟩
        simp
      · trivial
    all_goals exact ⟨_, by simp [binOp, Op.stringOp, e1, e2, beq_dec], .bool _⟩

end
end GoE

/- One operation of the model does what the evaluator says: equality, addresses, parts, conversions, slices of texts. No condition. -/
namespace GoE
open Go

section
variable {P : Program} {L : Low} {G : Gh} {s : St} {w : World} {tmps : List AV} {a : Act}

theorem cellK_desc (hL : LowOK P L) {t : TypeId} {k : CK} (h : cellK L t = some k) :
    (k = .b ∧ P.underlying t = some .bool) ∨ (k = .i ∧ ∃ ik, P.underlying t = some (.int ik)) ∨ (k = .s ∧ P.underlying t = some .string) := by
  unfold cellK Low.desc at h
  cases h1 : L.ty t with
  | none => simp [h1] at h
  | some ti =>
    obtain ⟨i, hi⟩ := hL.ty t ti h1
    simp only [h1, Option.map_some] at h
    cases hd : ti.desc <;> simp only [hd, Option.some.injEq] at h <;> try cases h
    · exact .inl ⟨rfl, by rw [hi.desc, hd]⟩
    · exact .inr (.inl ⟨rfl, _, by rw [hi.desc, hd]⟩)
    · exact .inr (.inr ⟨rfl, by rw [hi.desc, hd]⟩)

theorem ba_beq (x y : ByteArray) : (x == y) = decide (x.data.toList = y.data.toList) := by
  cases x with | mk a => cases y with | mk b =>
  show (a == b) = _
  by_cases e : a = b
  · subst e; simp
  · have : ¬ a.toList = b.toList := fun h => e (Array.toList_inj.1 h)
    simp [e]

theorem eqC_run (hL : LowOK P L) {t : TypeId} {k : CK} (hk : cellK L t = some k) {x y : AV} {u v : Value} (hx : V G x u) (hy : V G y v) {b : Bool} (h : eqC k x y = some b) (d : Nat) :
    (Op.equalIn (d + 1) t u v).run P w = .ok b w := by
  rcases cellK_desc hL hk with ⟨rfl, hd⟩ | ⟨rfl, ik, hd⟩ | ⟨rfl, hd⟩
  · cases hx <;> cases hy <;> simp only [eqC] at h <;> try cases h
    simp [Op.equalIn, run_underlying hd]
  · cases hx <;> cases hy <;> simp only [eqC] at h <;> try cases h
    rename_i k n k' m
    split at h
    · rename_i hk
      subst hk
      cases h
      simp only [Op.equalIn, Sem.run_bind, run_underlying hd, Result.andThen_ok, if_true]
      by_cases e : n = m
      · subst e; simp
      · simp [e]
    · cases h
  · cases hx <;> cases hy <;> simp only [eqC] at h <;> try cases h
    rename_i x y
    simp only [Op.equalIn, Sem.run_bind, run_underlying hd, Result.andThen_ok, ba_beq]
    rfl

theorem part_one {t : TypeId} {d : TypeDesc} (hd : P.underlying t = some d) (ha : isAggD d = false) {xs : Array Value} {off : Nat} {v : Value} (h : xs[off]? = some v) :
    (part t xs off).run P w = .ok v w := by
  have := isAgg_run (P := P) (w := w) hd
  simp [part, this, ha, h]

theorem cellK_part (hL : LowOK P L) {t : TypeId} {k : CK} (hk : cellK L t = some k) {xs : Array Value} {off : Nat} {v : Value} (h : xs[off]? = some v) : (part t xs off).run P w = .ok v w := by
  rcases cellK_desc hL hk with ⟨rfl, hd⟩ | ⟨rfl, ik, hd⟩ | ⟨rfl, hd⟩ <;> exact part_one hd rfl h

theorem eqFields_run (hL : LowOK P L) (xs ys : Array Value) (d : Nat) : ∀ (fs : List Field) (i : Nat) (ks : List CK) (cx cy : List AV) (b : Bool), cellKs L fs i = some ks →
    VL G cx (xs.toList.drop i) → VL G cy (ys.toList.drop i) → eqCL ks cx cy = some b →
    (forIn fs ((none, ()) : Option Bool × Unit) fun (f : Field) (_ : Option Bool × Unit) =>
            if f.name = "_" then (pure (ForInStep.yield (none, ())) : Sem (ForInStep (Option Bool × Unit)))
            else do
              let x ← part f.type xs f.offset
              let y ← part f.type ys f.offset
              let r ← Op.equalIn (d + 1) f.type x y
              if r = false then pure (ForInStep.done (some false, ())) else pure (ForInStep.yield (none, ()))).run P w = .ok (if b then none else some false, ()) w
  | [], i, ks, cx, cy, b, hk, hx, hy, h => by
    simp only [cellKs, Option.some.injEq] at hk
    subst hk
    cases cx <;> cases cy <;> simp only [eqCL] at h <;> try cases h
    simp
  | f :: fs, i, ks, cx, cy, b, hk, hx, hy, h => by
    simp only [cellKs] at hk
    split at hk
    · rename_i hf
      cases h1 : cellK L f.type with
      | none => simp [h1] at hk
      | some k =>
        cases h2 : cellKs L fs (i + 1) with
        | none => simp [h1, h2] at hk
        | some ks' =>
          simp only [h1, h2, Option.some.injEq] at hk
          subst hk
          cases cx with
          | nil => simp [eqCL] at h
          | cons c cx =>
            cases cy with
            | nil => simp [eqCL] at h
            | cons c' cy =>
              obtain ⟨u, us, e1, hu, hus⟩ := hx.cons_inv
              obtain ⟨v, vs, e2, hv, hvs⟩ := hy.cons_inv
              have gu : xs[i]? = some u := by have := congrArg (·[0]?) e1; simpa using this
              have gv : ys[i]? = some v := by have := congrArg (·[0]?) e2; simpa using this
              have eu : us = xs.toList.drop (i + 1) := by have := congrArg List.tail e1; simpa using this.symm
              have ev : vs = ys.toList.drop (i + 1) := by have := congrArg List.tail e2; simpa using this.symm
              rw [eu] at hus
              rw [ev] at hvs
              simp only [eqCL] at h
              cases hc : eqC k c c' with
              | none => simp [hc] at h
              | some r =>
                have hr := eqC_run (w := w) hL h1 hu hv hc d
                have p1 := cellK_part (w := w) hL h1 gu
                have p2 := cellK_part (w := w) hL h1 gv
                simp only [List.forIn_cons, hf.1, hf.2, if_false, Sem.run_bind, p1, p2, hr, Result.andThen_ok]
                cases r with
                | false =>
                  simp only [hc, Option.some.injEq] at h
                  subst h
                  simp
                | true =>
                  simp only [hc] at h
                  have ih := eqFields_run hL xs ys d fs (i + 1) ks' cx cy b h2 hus hvs h
                  simpa using ih
    · cases hk

theorem eqRun_ok {t : TypeId} {x y : Operand} {u v : Value} {b : Bool} (neg : Bool)
    (hg : (eqGuard (if neg then .neq else .eql) t x y u v).run P w = .ok () w) (he : (Op.equal t u v).run P w = .ok b w)
    (hb : ∀ op, op = BinOp.eql ∨ op = .neq → binOp op t u v = (do let r ← Op.equal t u v; pure (.bool (if op = .eql then r else !r)))) :
    PureOK P G s w (.val (.bool (if neg then !b else b))) (do eqGuard (if neg then .neq else .eql) t x y u v; binOp (if neg then .neq else .eql) t u v) := by
  refine ⟨.bool (if neg then !b else b), ?_, .bool _⟩
  cases neg <;> simp_all

/-- By which rule two values of a type are held against each other. -/
def TagOK (P : Program) (L : Low) (t : TypeId) : EqT → Prop
  | .b => P.underlying t = some .bool
  | .p => ∃ e i, P.underlying t = some (.pointer e) ∧ P.info? e = some i ∧ i.size ≠ 0
  | .s => ∃ e, P.underlying t = some (.slice e)
  | .m => ∃ k e, P.underlying t = some (.map k e)
  | .f => ∃ a b c, P.underlying t = some (.func a b c)
  | .i => ∃ m, P.underlying t = some (.interface m)
  | .a ks => ∃ fs : Array Field, P.underlying t = some (.struct fs) ∧ cellKs L fs.toList 0 = some ks ∧ P.eqGuardType P.depth t = false ∧ P.stoodInHeld t = false

theorem equalIn_b {t : TypeId} (hd : P.underlying t = some .bool) (a b : Bool) (d : Nat) : (Op.equalIn (d + 1) t (.bool a) (.bool b)).run P w = .ok (a == b) w := by
  simp [Op.equalIn, run_underlying hd]
theorem equalIn_p0 {t e : TypeId} (hd : P.underlying t = some (.pointer e)) (b : Option Addr) (d : Nat) : (Op.equalIn (d + 1) t (.pointer none) (.pointer b)).run P w = .ok b.isNone w := by
  simp [Op.equalIn, run_underlying hd]
theorem equalIn_p1 {t e : TypeId} (hd : P.underlying t = some (.pointer e)) (b : Addr) (d : Nat) : (Op.equalIn (d + 1) t (.pointer (some b)) (.pointer none)).run P w = .ok false w := by
  simp [Op.equalIn, run_underlying hd]
theorem equalIn_p2 {t e : TypeId} {i : TypeInfo} (hd : P.underlying t = some (.pointer e)) (hinf : P.info? e = some i) (hsz : i.size ≠ 0) (b o p d : Nat) :
    (Op.equalIn (d + 1) t (.pointer (some ⟨b, o, none⟩)) (.pointer (some ⟨b, p, none⟩))).run P w = .ok (decide (o = p)) w := by
  have hs : (Go.sizeOf e).run P w = .ok i.size w := by simp [Go.sizeOf, typeInfo, hinf]
  simp only [Op.equalIn, Sem.run_bind, run_underlying hd, Result.andThen_ok, hs]
  simp [hsz, sameAddr]
  by_cases e : o = p
  · subst e; simp
  · simp [e]
theorem equalIn_s0 {t e : TypeId} (hd : P.underlying t = some (.slice e)) (b : Option Addr) (n c : Nat) (d : Nat) : (Op.equalIn (d + 1) t (.slice none 0 0) (.slice b n c)).run P w = .ok b.isNone w := by
  simp [Op.equalIn, run_underlying hd]
theorem equalIn_s1 {t e : TypeId} (hd : P.underlying t = some (.slice e)) (b : Addr) (n c : Nat) (d : Nat) : (Op.equalIn (d + 1) t (.slice (some b) n c) (.slice none 0 0)).run P w = .ok false w := by
  simp [Op.equalIn, run_underlying hd]
theorem equalIn_m0 {t k e : TypeId} (hd : P.underlying t = some (.map k e)) (b : Option Nat) (d : Nat) : (Op.equalIn (d + 1) t (.map none) (.map b)).run P w = .ok b.isNone w := by
  simp [Op.equalIn, run_underlying hd]
theorem equalIn_m1 {t k e : TypeId} (hd : P.underlying t = some (.map k e)) (b : Nat) (d : Nat) : (Op.equalIn (d + 1) t (.map (some b)) (.map none)).run P w = .ok false w := by
  simp [Op.equalIn, run_underlying hd]
theorem equalIn_f0 {t : TypeId} {a1 a2 : Array TypeId} {a3 : Bool} (hd : P.underlying t = some (.func a1 a2 a3)) (d : Nat) : (Op.equalIn (d + 1) t .nilFunc .nilFunc).run P w = .ok true w := by
  simp [Op.equalIn, run_underlying hd]
theorem equalIn_f1 {t : TypeId} {a1 a2 : Array TypeId} {a3 : Bool} (hd : P.underlying t = some (.func a1 a2 a3)) (fn : Fn) (x y : Array Value) (d : Nat) : (Op.equalIn (d + 1) t .nilFunc (.func fn x y)).run P w = .ok false w := by
  simp [Op.equalIn, run_underlying hd]
theorem equalIn_f2 {t : TypeId} {a1 a2 : Array TypeId} {a3 : Bool} (hd : P.underlying t = some (.func a1 a2 a3)) (fn : Fn) (x y : Array Value) (d : Nat) : (Op.equalIn (d + 1) t (.func fn x y) .nilFunc).run P w = .ok false w := by
  simp [Op.equalIn, run_underlying hd]
theorem equalIn_i0 {t : TypeId} {m : Array (String × TypeId)} (hd : P.underlying t = some (.interface m)) (u : TypeId) (x : Value) (d : Nat) : (Op.equalIn (d + 1) t .nilIface (.iface u x)).run P w = .ok false w := by
  simp [Op.equalIn, run_underlying hd]
theorem equalIn_i1 {t : TypeId} {m : Array (String × TypeId)} (hd : P.underlying t = some (.interface m)) (u : TypeId) (x : Value) (d : Nat) : (Op.equalIn (d + 1) t (.iface u x) .nilIface).run P w = .ok false w := by
  simp [Op.equalIn, run_underlying hd]
theorem equalIn_a (hL : LowOK P L) {t : TypeId} {fs : Array Field} {ks : List CK} (hd : P.underlying t = some (.struct fs)) (hks : cellKs L fs.toList 0 = some ks) (hst : P.stoodInHeld t = false)
    {cx cy : List AV} {us vs : Array Value} {b : Bool} (hx : VL G cx us.toList) (hy : VL G cy vs.toList) (h : eqCL ks cx cy = some b) (d : Nat) :
    (Op.equalIn (d + 1 + 1) t (.agg us) (.agg vs)).run P w = .ok b w := by
  have hf := eqFields_run (P := P) (G := G) (w := w) hL us vs d fs.toList 0 ks cx cy b hks (by simpa using hx) (by simpa using hy) h
  rw [Op.equalIn]
  simp only [Sem.run_bind, run_underlying hd, Result.andThen_ok, run_program, hst]
  simp at hf ⊢
  rw [hf]
  cases b <;> simp

theorem equal_of {t : TypeId} {u v : Value} {b : Bool} (h : ∀ d, (Op.equalIn (d + 1 + 1) t u v).run P w = .ok b w) : (Op.equal t u v).run P w = .ok b w := h 9998

/-- Is it neither a number nor a text nor a nil interface? -/
def Value.odd : Value → Bool
  | .int .. | .string _ | .float .. | .complex .. => false
  | _ => true

theorem binOp_odd {t : TypeId} {u v : Value} (h : Value.odd u = true) : ∀ op, op = BinOp.eql ∨ op = .neq → binOp op t u v = (do let r ← Op.equal t u v; pure (.bool (if op = .eql then r else !r))) := by
  intro op hop
  rcases hop with rfl | rfl <;> cases u <;> first | (simp [Value.odd] at h; done) | (cases v <;> rfl)

theorem eq_ok (hL : LowOK P L) {t : TypeId} {x y : Operand} {ax ay : AV} {u v : Value} (hx : V G ax u) (hy : V G ay v) {tag : EqT} (ht : TagOK P L t tag) {b : Bool}
    (h : eqT tag ax ay = some b) (neg : Bool) :
    PureOK P G s w (.val (.bool (if neg then !b else b))) (do eqGuard (if neg then .neq else .eql) t x y u v; binOp (if neg then .neq else .eql) t u v) := by
  have grd : (u.oneCell' && v.oneCell') = true → (u ≠ .nilIface ∨ v ≠ .nilIface) → (eqGuard (if neg then .neq else .eql) t x y u v).run P w = .ok () w := fun h1 h2 => eqGuard_num h1 h2
  cases tag with
  | b =>
    cases hx <;> cases hy <;> simp only [eqT] at h <;> try cases h
    exact eqRun_ok neg (grd rfl (.inl (by simp))) (equal_of fun d => equalIn_b ht _ _ _) (binOp_odd rfl)
  | p =>
    obtain ⟨e, i, hd, hinf, hsz⟩ := ht
    cases hx <;> cases hy <;> simp only [eqT] at h <;> try cases h
    case ptr.ptr r off bb hb r' off' bb' hb' =>
      split at h
      · rename_i hr
        subst hr
        rw [hb] at hb'; cases hb'
        cases h
        exact eqRun_ok neg (grd rfl (.inl (by simp))) (equal_of fun d => equalIn_p2 hd hinf hsz _ _ _ _) (binOp_odd rfl)
      · cases h
    case nilptr.nilptr.refl => exact eqRun_ok neg (grd rfl (.inl (by simp))) (equal_of fun d => equalIn_p0 hd _ _) (binOp_odd rfl)
    case nilptr.ptr.refl => exact eqRun_ok neg (grd rfl (.inl (by simp))) (equal_of fun d => equalIn_p0 hd _ _) (binOp_odd rfl)
    case nilptr.iptr.refl => exact eqRun_ok neg (grd rfl (.inl (by simp))) (equal_of fun d => equalIn_p0 hd _ _) (binOp_odd rfl)
    case ptr.nilptr.refl => exact eqRun_ok neg (grd rfl (.inl (by simp))) (equal_of fun d => equalIn_p1 hd _ _) (binOp_odd rfl)
    case iptr.nilptr.refl => exact eqRun_ok neg (grd rfl (.inl (by simp))) (equal_of fun d => equalIn_p1 hd _ _) (binOp_odd rfl)
  | s =>
    obtain ⟨e, hd⟩ := ht
    cases hx <;> cases hy <;> simp only [eqT] at h <;> try cases h
    case nilslice.nilslice.refl => exact eqRun_ok neg (grd rfl (.inl (by simp))) (equal_of fun d => equalIn_s0 hd _ _ _ _) (binOp_odd rfl)
    case nilslice.slice.refl => exact eqRun_ok neg (grd rfl (.inl (by simp))) (equal_of fun d => equalIn_s0 hd _ _ _ _) (binOp_odd rfl)
    case nilslice.arr.refl => exact eqRun_ok neg (grd rfl (.inl (by simp))) (equal_of fun d => equalIn_s0 hd _ _ _ _) (binOp_odd rfl)
    case slice.nilslice.refl => exact eqRun_ok neg (grd rfl (.inl (by simp))) (equal_of fun d => equalIn_s1 hd _ _ _ _) (binOp_odd rfl)
    case arr.nilslice.refl => exact eqRun_ok neg (grd rfl (.inl (by simp))) (equal_of fun d => equalIn_s1 hd _ _ _ _) (binOp_odd rfl)
  | m =>
    obtain ⟨k, e, hd⟩ := ht
    cases hx <;> cases hy <;> simp only [eqT] at h <;> try cases h
    case nilmap.nilmap.refl => exact eqRun_ok neg (grd rfl (.inl (by simp))) (equal_of fun d => equalIn_m0 hd _ _) (binOp_odd rfl)
    case nilmap.map.refl => exact eqRun_ok neg (grd rfl (.inl (by simp))) (equal_of fun d => equalIn_m0 hd _ _) (binOp_odd rfl)
    case map.nilmap.refl => exact eqRun_ok neg (grd rfl (.inl (by simp))) (equal_of fun d => equalIn_m1 hd _ _) (binOp_odd rfl)
  | f =>
    obtain ⟨a1, a2, a3, hd⟩ := ht
    cases hx <;> cases hy <;> simp only [eqT] at h <;> try cases h
    case nilFunc.nilFunc.refl => exact eqRun_ok neg (grd rfl (.inl (by simp))) (equal_of fun d => equalIn_f0 hd _) (binOp_odd rfl)
    case nilFunc.func.refl => exact eqRun_ok neg (grd rfl (.inl (by simp))) (equal_of fun d => equalIn_f1 hd _ _ _ _) (binOp_odd rfl)
    case func.nilFunc.refl => exact eqRun_ok neg (grd rfl (.inl (by simp))) (equal_of fun d => equalIn_f2 hd _ _ _ _) (binOp_odd rfl)
  | i =>
    obtain ⟨m, hd⟩ := ht
    cases hx <;> cases hy <;> simp only [eqT] at h <;> try cases h
    case nilIface.iface.refl => exact eqRun_ok neg (grd rfl (.inr (by simp))) (equal_of fun d => equalIn_i0 hd _ _ _) (binOp_odd rfl)
    case iface.nilIface.refl => exact eqRun_ok neg (grd rfl (.inl (by simp))) (equal_of fun d => equalIn_i1 hd _ _ _) (binOp_odd rfl)
  | a ks =>
    obtain ⟨fs, hd, hks, hgt, hst⟩ := ht
    cases hx <;> cases hy <;> simp only [eqT] at h <;> try cases h
    case agg.agg cx us hlx hvx _ cy vs hly hvy _ =>
      refine eqRun_ok neg ?_ (equal_of fun d => equalIn_a hL hd hks hst ⟨by simpa using hlx, fun i c v hc hv => hvx i c v hc (by simpa using hv)⟩
          ⟨by simpa using hly, fun i c v hc hv => hvy i c v hc (by simpa using hv)⟩ h d) (binOp_odd rfl)
      unfold eqGuard
      cases neg <;> simp [hgt]
end
end GoE

/- One operation of the model does what the evaluator says: parts, addresses, indexes, slices, conversions, lengths. No condition. -/
namespace GoE
open Go

section
variable {P : Program} {L : Low} {G : Gh} {s : St} {w : World} {tmps : List AV} {a : Act}

theorem nilc_ok (hi : Inv G s w) {ρ : Operand → Value} {o : Oper} {y : Operand} (ho : o.op = .nilCheck y) {x : EArg} (hv : V G (x.ev tmps) (ρ y)) :
    OpOK P G s w (opV (rtOf P) tmps s (.nilc x)) ((execOp ρ o).run P w) := by
  simp only [opV]
  unfold execOp
  rw [ho]
  simp only
  generalize x.ev tmps = av at hv
  generalize ρ y = u at hv
  cases hv <;> try trivial
  · exact error_ok hi "invalid memory address or nil pointer dereference" (by simp [runtimePanic])
  · rename_i r off b h; exact ValOK.same hi (.ptr r off b h) (by simp)
  · rename_i cells off b o vs hl him hv h1; exact ValOK.same hi (.iptr cells off b o vs hl him hv h1) (by simp)
  · exact error_ok hi "invalid memory address or nil pointer dereference" (by simp [runtimePanic])
  · exact error_ok hi "invalid memory address or nil pointer dereference" (by simp [runtimePanic])

theorem un_ok {op : UnOp} {x : EArg} {v : Value} (hv : V G (x.ev tmps) v) : PureOK P G s w (opV (rtOf P) tmps s (.un op x)) (Op.unary op v) := by
  simp only [opV]
  generalize x.ev tmps = av at hv
  cases hv <;> cases op <;> try trivial
  · exact ⟨_, by simp [Op.unary], .bool _⟩
  · exact ⟨_, by simp [Op.unary, Op.intArith], .int _ _⟩
  · exact ⟨_, by simp only [Op.unary, Op.intBits]; simp, .int _ _⟩

theorem part_ok {t : TypeId} {ti : TI} {i : TypeInfo} (ht : TyOK P ti t i) {cs : List AV} {vs : Array Value} (hl : vs.size = cs.length) (hv : ∀ (i : Nat) (c : AV) (v : Value), cs[i]? = some c → vs[i]? = some v → V G c v)
    (h1 : ∀ (i : Nat) (v : Value), vs[i]? = some v → v.oneCell' = true) {off : Nat} {res : AV} (h : (ltake cs off ti.size).bind (shapeV ti.agg) = some res) :
    ∃ v', (part t vs off).run P w = .ok v' w ∧ V G res v' := by
  obtain ⟨l, e1, e2⟩ := Option.bind_eq_some_iff.1 h
  obtain ⟨k1, rfl⟩ := ltake_spec e1
  have hagg := isAgg_run (P := P) (w := w) ht.desc
  rw [← ht.agg] at hagg
  have hsz : (Go.sizeOf t).run P w = .ok ti.size w := by simp [Go.sizeOf, typeInfo, ht.info, ht.size]
  cases hb : ti.agg with
  | true =>
    rw [hb] at hagg e2
    simp only [shapeV, if_true, Option.some.injEq] at e2
    subst e2
    refine ⟨.agg (vs.extract off (off + ti.size)), by simp [part, hagg, hsz], .agg _ _ ?_ ?_ ?_⟩
    · simp; omega
    · intro i c v hc hv'
      rw [List.getElem?_take] at hc
      split at hc
      · rw [List.getElem?_drop] at hc
        rw [Array.getElem?_extract] at hv'
        split at hv'
        · exact hv _ c v hc hv'
        · cases hv'
      · cases hc
    · intro i v hv'
      rw [Array.getElem?_extract] at hv'
      split at hv'
      · exact h1 _ v hv'
      · cases hv'
  | false =>
    rw [hb] at hagg e2
    simp only [shapeV, Bool.false_eq_true, if_false] at e2
    split at e2
    · rename_i c hc
      simp only [Option.some.injEq] at e2
      subst e2
      have hlen : ((cs.drop off).take ti.size).length = 1 := by rw [hc]; rfl
      have hoff : off < vs.size := by simp at hlen; omega
      have hco : cs[off]? = some c := by
        have := congrArg (·[0]?) hc
        simp only [List.getElem?_take, List.getElem?_drop, Nat.add_zero] at this
        split at this
        · simpa using this
        · simp at this
      exact ⟨vs[off], by simp [part, hagg, hoff], hv off c _ hco (by simp [hoff])⟩
    · cases e2

theorem field_ok {t : TypeId} {fs : Array Field} (hd : P.underlying t = some (.struct fs)) {f : Nat} {fd : Field} (hf : fs[f]? = some fd) {ti : TI} {i : TypeInfo} (ht : TyOK P ti fd.type i) {x : EArg} {v : Value} (hv : V G (x.ev tmps) v) :
    PureOK P G s w (opV (rtOf P) tmps s (.fget fd.offset ti.size ti.agg x)) (Instr.field t v f) := by
  simp only [opV]
  generalize x.ev tmps = av at hv
  cases hv <;> try trivial
  rename_i cs vs hl hv h1
  simp only
  split
  · rename_i res hres
    obtain ⟨v', k1, k2⟩ := part_ok (P := P) (w := w) ht hl hv h1 hres
    exact ⟨v', by simp [Instr.field, run_underlying hd, hf, asAgg, k1], k2⟩
  · trivial

theorem addOff_ok {t : TypeId} {fs : Array Field} (hd : P.underlying t = some (.struct fs)) {f : Nat} {fd : Field} (hf : fs[f]? = some fd) {ti : TI} {i : TypeInfo} (ht : TyOK P ti fd.type i) (hsz : ti.size ≠ 0)
    {x : EArg} {v : Value} (hv : V G (x.ev tmps) v) : PureOK P G s w (opV (rtOf P) tmps s (.addOff fd.offset x)) (Instr.fieldAt t v f) := by
  simp only [opV]
  generalize x.ev tmps = av at hv
  have hs : (Go.sizeOf fd.type).run P w = .ok ti.size w := by simp [Go.sizeOf, typeInfo, ht.info, ht.size]
  cases hv <;> try trivial
  · rename_i r off b h
    exact ⟨.pointer (some ⟨b, off + fd.offset, none⟩), by simp [Instr.fieldAt, run_underlying hd, hf, Instr.sureAddr, fieldPlace, hs, hsz, Addr_add], .ptr _ _ _ h⟩
  · rename_i cells off b o vs hl him hv h1
    refine ⟨.pointer (some ⟨b, o + off + fd.offset, none⟩), by simp [Instr.fieldAt, run_underlying hd, hf, Instr.sureAddr, fieldPlace, hs, hsz, Addr_add], ?_⟩
    rw [Nat.add_assoc]
    exact .iptr _ _ _ _ vs hl him hv h1

theorem flat_length : ∀ (es : List AV) (sz : Nat), (∀ e ∈ es, e.cells.length = sz) → (es.flatMap AV.cells).length = es.length * sz
  | [], sz, _ => by simp
  | e :: es, sz, h => by
    rw [List.flatMap_cons, List.length_append, h e (by simp), flat_length es sz (fun x hx => h x (by simp [hx])), List.length_cons, Nat.add_mul, Nat.one_mul, Nat.add_comm]

theorem flat_drop : ∀ (es : List AV) (sz n : Nat), (∀ e ∈ es, e.cells.length = sz) → (es.drop n).flatMap AV.cells = (es.flatMap AV.cells).drop (n * sz)
  | es, sz, 0, _ => by simp
  | [], sz, n + 1, _ => by simp
  | e :: es, sz, n + 1, h => by
    have he := h e (by simp)
    rw [List.drop_succ_cons, flat_drop es sz n (fun x hx => h x (by simp [hx])), List.flatMap_cons, Nat.add_mul, Nat.one_mul, List.drop_append, he]
    have h0 : e.cells.drop (n * sz + sz) = [] := List.drop_eq_nil_of_le (by omega)
    rw [h0]
    simp

theorem flat_take : ∀ (es : List AV) (sz n : Nat), (∀ e ∈ es, e.cells.length = sz) → (es.take n).flatMap AV.cells = (es.flatMap AV.cells).take (n * sz)
  | es, sz, 0, _ => by simp
  | [], sz, n + 1, _ => by simp
  | e :: es, sz, n + 1, h => by
    have he := h e (by simp)
    rw [List.take_succ_cons, List.flatMap_cons, flat_take es sz n (fun x hx => h x (by simp [hx])), List.flatMap_cons, Nat.add_mul, Nat.one_mul, List.take_append, he]
    have h0 : e.cells.take (n * sz + sz) = e.cells := List.take_of_length_le (by omega)
    rw [h0]
    congr 2
    omega

theorem indexAt_slice_run {t e : TypeId} {ti : TI} {i : TypeInfo} (hd : P.underlying t = some (.slice e)) (ht : TyOK P ti e i) (b o len cap : Nat) (k : IntKind) (n : Int) (h0 : 0 ≤ n) (h1 : n < len) :
    (Instr.indexAt t (.slice (some ⟨b, o, none⟩) len cap) (.int k n)).run P w = .ok (.pointer (some ⟨b, o + n.toNat * ti.size, none⟩)) w := by
  have hs : (Go.sizeOf e).run P w = .ok ti.size w := by simp [Go.sizeOf, typeInfo, ht.info, ht.size]
  simp [Instr.indexAt, asIntOf, run_underlying hd, h0, h1, hs, Addr_add]

theorem indexAt_slice_out {t e : TypeId} (hd : P.underlying t = some (.slice e)) (b : Option Addr) (len cap : Nat) (k : IntKind) (n : Int) (h : ¬ (0 ≤ n ∧ n < len)) (hb : b = none → len = 0) :
    ∃ y, (Instr.indexAt t (.slice b len cap) (.int k n)).run P w = (boundsPanic k n y .index : Sem Value).run P w := by
  cases b with
  | none => exact ⟨0, by simp [Instr.indexAt, asIntOf, run_underlying hd]⟩
  | some b => exact ⟨len, by simp [Instr.indexAt, asIntOf, run_underlying hd, h]⟩

theorem idxS_ok (hi : Inv G s w) {t e : TypeId} {ti : TI} {i : TypeInfo} (hd : P.underlying t = some (.slice e)) (ht : TyOK P ti e i) {x y : EArg} {v vi : Value} (hv : V G (x.ev tmps) v) (hvi : V G (y.ev tmps) vi) :
    PureOK P G s w (opV (rtOf P) tmps s (.idxS ti.size x y)) (Instr.indexAt t v vi) := by
  simp only [opV]
  generalize x.ev tmps = av at hv
  generalize y.ev tmps = ai at hvi
  have out : ∀ (b : Option Addr) (len cap : Nat) (k : IntKind) (n : Int), ¬ (0 ≤ n ∧ n < len) → (b = none → len = 0) → PureOK P G s w (pBounds (rtOf P)) (Instr.indexAt t (.slice b len cap) (.int k n)) := fun b len cap k n h hb => by
    obtain ⟨y, hy⟩ := indexAt_slice_out (P := P) (w := w) hd b len cap k n h hb
    exact PureOK.bounds hi k n y .index hy
  cases hv <;> cases hvi <;> try trivial
  · exact out none 0 0 _ _ (by omega) (fun _ => rfl)
  · rename_i sz tk es b o cap vs hsz hes hl him hv h1 hcap hx htk k n
    simp only
    split
    · rename_i hz
      subst hz
      split
      · rename_i h0
        rw [lget_eq]
        cases hg : es[n.toNat]? with
        | none => exact out _ _ _ _ _ (fun h => by have : n.toNat < es.length := by omega
                                                   rw [List.getElem?_eq_getElem this] at hg; cases hg) (fun h => by cases h)
        | some e =>
          have hlt : n.toNat < es.length := (List.getElem?_eq_some_iff.1 hg).1
          refine ⟨_, indexAt_slice_run hd ht b o es.length cap k n h0 (by omega), ?_⟩
          have hmem : e ∈ es := List.mem_of_getElem? hg
          have hle := hes e hmem
          have hfl := flat_length es ti.size hes
          have hge : n.toNat * ti.size + ti.size ≤ es.length * ti.size := by
            have : (n.toNat + 1) * ti.size ≤ es.length * ti.size := Nat.mul_le_mul_right _ (by omega)
            rw [Nat.add_mul] at this; omega
          have hcells : e.cells = ((es.flatMap AV.cells).drop (n.toNat * ti.size)).take ti.size := by
            rw [← flat_drop es ti.size n.toNat hes, List.drop_eq_getElem_cons hlt, List.flatMap_cons]
            have : es[n.toNat] = e := by have := (List.getElem?_eq_some_iff.1 hg).2; exact this
            rw [this, List.take_append_of_le_length (by omega), List.take_of_length_le (by omega)]
          have hVL : VL G (es.flatMap AV.cells) vs := ⟨hl, hv⟩
          have := V.iptr (G := G) e.cells 0 b (o + n.toNat * ti.size) ((vs.drop (n.toNat * ti.size)).take ti.size) (by simp; omega)
            (fun i v hv' => by
              rw [List.getElem?_take] at hv'
              split at hv'
              · rw [List.getElem?_drop] at hv'
                have := him _ v hv'
                rwa [← Nat.add_assoc] at this
              · cases hv')
            (by rw [hcells]; exact ((hVL.drop _).take _).2)
            (fun i v hv' => by
              rw [List.getElem?_take] at hv'
              split at hv'
              · rw [List.getElem?_drop] at hv'; exact h1 _ v hv'
              · cases hv')
          simpa using this
      · exact out _ _ _ _ _ (by omega) (fun h => by cases h)
    · trivial
  · rename_i r off len cap co b off' h hc hcap ho hk k n
    simp only
    split
    · rename_i hb
      obtain rfl : off' = off := ho.resolve_right (by omega)
      exact ⟨_, indexAt_slice_run hd ht b off' len cap k n hb.1 hb.2, .ptr _ _ _ h⟩
    · rename_i hb
      exact out _ _ _ _ _ hb (fun h => by cases h)

theorem idxA_ok (hi : Inv G s w) {t e : TypeId} {m : Nat} {ti : TI} {i : TypeInfo} (hd : P.underlying t = some (.array m e)) (ht : TyOK P ti e i) {x y : EArg} {v vi : Value} (hv : V G (x.ev tmps) v) (hvi : V G (y.ev tmps) vi) :
    PureOK P G s w (opV (rtOf P) tmps s (.idxA m ti.size x y)) (Instr.indexAt t v vi) := by
  simp only [opV]
  generalize x.ev tmps = av at hv
  generalize y.ev tmps = ai at hvi
  have hs : (Go.sizeOf e).run P w = .ok ti.size w := by simp [Go.sizeOf, typeInfo, ht.info, ht.size]
  have out : ∀ (b : Addr) (k : IntKind) (n : Int), ¬ (0 ≤ n ∧ n < m) → ¬ m ≤ 1 → PureOK P G s w (pBounds (rtOf P)) (Instr.indexAt t (.pointer (some b)) (.int k n)) := fun b k n h hm =>
    PureOK.bounds hi k n m .index (by simp [Instr.indexAt, asIntOf, run_underlying hd, Instr.sureAddr, h, hm])
  cases hv <;> cases hvi <;> try trivial
  · rename_i r off b h k n
    simp only
    split
    · rename_i hb
      exact ⟨.pointer (some ⟨b, off + n.toNat * ti.size, none⟩), by simp [Instr.indexAt, asIntOf, run_underlying hd, Instr.sureAddr, hb, hs, Addr_add], .ptr _ _ _ h⟩
    · rename_i hb
      split
      · trivial
      · rename_i hm; exact out _ _ _ hb hm
  · rename_i cells off b o vs hl him hv h1 k n
    simp only
    split
    · rename_i hb
      refine ⟨.pointer (some ⟨b, o + off + n.toNat * ti.size, none⟩), by simp [Instr.indexAt, asIntOf, run_underlying hd, Instr.sureAddr, hb, hs, Addr_add], ?_⟩
      rw [Nat.add_assoc]
      exact .iptr _ _ _ _ vs hl him hv h1
    · rename_i hb
      split
      · trivial
      · rename_i hm; exact out _ _ _ hb hm

theorem ba_get (b : ByteArray) (n : Nat) : b[n]? = b.data.toList[n]? := by
  by_cases h : n < b.size
  · have h' : n < b.data.toList.length := by rw [← size_data]; exact h
    rw [getElem?_pos b n h, List.getElem?_eq_getElem h']
    rfl
  · have h' : b.data.toList.length ≤ n := by rw [← size_data]; omega
    rw [getElem?_neg b n h, List.getElem?_eq_none h']

theorem idxStr_ok (hi : Inv G s w) {t : TypeId} (hd : P.underlying t = some .string) {x y : EArg} {v vi : Value} (hv : V G (x.ev tmps) v) (hvi : V G (y.ev tmps) vi) :
    PureOK P G s w (opV (rtOf P) tmps s (.idxStr x y)) (Instr.index t v vi) := by
  simp only [opV]
  generalize x.ev tmps = av at hv
  generalize y.ev tmps = ai at hvi
  cases hv <;> cases hvi <;> try trivial
  rename_i str k n
  simp only
  have out : (if 0 ≤ n then str[n.toNat]? else none) = none → PureOK P G s w (pBounds (rtOf P)) (Instr.index t (.string str) (.int k n)) := fun h =>
    PureOK.bounds hi k n str.size .index (by simp [Instr.index, asIntOf, run_underlying hd, h])
  split
  · rename_i h0
    rw [lget_eq, ← ba_get]
    cases hg : str[n.toNat]? with
    | none => exact out (by simp [h0, hg])
    | some c => exact ⟨.int .u8 c.toNat, by simp [Instr.index, asIntOf, run_underlying hd, h0, hg], .int _ _⟩
  · rename_i h0; exact out (by simp [h0])

theorem idxArr_ok (hi : Inv G s w) {t e : TypeId} {m : Nat} {ti : TI} {i : TypeInfo} (hd : P.underlying t = some (.array m e)) (ht : TyOK P ti e i) {x y : EArg} {v vi : Value} (hv : V G (x.ev tmps) v) (hvi : V G (y.ev tmps) vi) :
    PureOK P G s w (opV (rtOf P) tmps s (.idxArr m ti.size ti.agg x y)) (Instr.index t v vi) := by
  simp only [opV]
  generalize x.ev tmps = av at hv
  generalize y.ev tmps = ai at hvi
  have hs : (Go.sizeOf e).run P w = .ok ti.size w := by simp [Go.sizeOf, typeInfo, ht.info, ht.size]
  cases hv <;> cases hvi <;> try trivial
  rename_i cs vs hl hv h1 k n
  simp only
  split
  · rename_i hb
    split
    · rename_i res hres
      obtain ⟨v', k1, k2⟩ := part_ok (P := P) (w := w) ht hl hv h1 hres
      exact ⟨v', by simp [Instr.index, asIntOf, run_underlying hd, hb, hs, k1], k2⟩
    · trivial
  · rename_i hb
    exact PureOK.bounds hi k n m .index (by simp [Instr.index, asIntOf, run_underlying hd, hb])

theorem extr_ok {x : EArg} {v : Value} (hv : V G (x.ev tmps) v) (i : Nat) : PureOK P G s w (opV (rtOf P) tmps s (.extr i x)) (Instr.extract v i) := by
  simp only [opV]
  generalize x.ev tmps = av at hv
  cases hv <;> try trivial
  rename_i cs vs hl h
  simp only
  split
  · rename_i c hc
    rw [lget_eq] at hc
    have hlt : i < vs.size := by rw [hl]; exact (List.getElem?_eq_some_iff.1 hc).1
    exact ⟨vs[i], by simp [Instr.extract, hlt], h i c _ hc (by simp [hlt])⟩
  · trivial

theorem lenS_ok {ts : Array TypeId} {ty t : TypeId} (ht : ts[0]? = some t) {x : EArg} {v : Value} (hv : V G (x.ev tmps) v) {args : Array Value} (ha : args[0]? = some v)
    (hd : P.underlying t = some .string) : PureOK P G s w (opV (rtOf P) tmps s (.lenS x)) (Builtin.len_ ts ty args) := by
  simp only [opV]
  generalize x.ev tmps = av at hv
  cases hv <;> try trivial
  rename_i str
  exact ⟨goInt str.size, by simp [Builtin.len_, ht, ha, run_underlying hd], by rw [← size_data]; exact .int _ _⟩

theorem len_ok {ts : Array TypeId} {ty t e : TypeId} (ht : ts[0]? = some t) {x : EArg} {v : Value} (hv : V G (x.ev tmps) v) {args : Array Value} (ha : args[0]? = some v)
    (hd : P.underlying t = some (.slice e)) : PureOK P G s w (opV (rtOf P) tmps s (.len x)) (Builtin.len_ ts ty args) := by
  simp only [opV]
  generalize x.ev tmps = av at hv
  cases hv <;> try trivial
  · exact ⟨goInt 0, by simp [Builtin.len_, ht, ha, run_underlying hd], .int _ _⟩
  · exact ⟨_, by simp [Builtin.len_, ht, ha, run_underlying hd]; rfl, .int _ _⟩
  · exact ⟨_, by simp [Builtin.len_, ht, ha, run_underlying hd]; rfl, .int _ _⟩

theorem lenK_ok {ts : Array TypeId} {ty t e : TypeId} {n : Nat} (ht : ts[0]? = some t) {v : Value} {args : Array Value} (ha : args[0]? = some v)
    (hd : P.underlying t = some (.array n e)) : PureOK P G s w (opV (rtOf P) tmps s (.lenK n)) (Builtin.len_ ts ty args) :=
  ⟨goInt n, by simp [Builtin.len_, ht, ha, run_underlying hd], .int _ _⟩

theorem capK_ok {ts : Array TypeId} {ty t e : TypeId} {n : Nat} (ht : ts[0]? = some t) {v : Value} {args : Array Value} (ha : args[0]? = some v)
    (hd : P.underlying t = some (.array n e)) : PureOK P G s w (opV (rtOf P) tmps s (.lenK n)) (Builtin.cap_ ts ty args) :=
  ⟨goInt n, by simp [Builtin.cap_, ht, ha, run_underlying hd], .int _ _⟩

theorem cap_ok {ts : Array TypeId} {ty t e : TypeId} (ht : ts[0]? = some t) {x : EArg} {v : Value} (hv : V G (x.ev tmps) v) {args : Array Value} (ha : args[0]? = some v)
    (hd : P.underlying t = some (.slice e)) : PureOK P G s w (opV (rtOf P) tmps s (.cap x)) (Builtin.cap_ ts ty args) := by
  simp only [opV]
  generalize x.ev tmps = av at hv
  cases hv <;> try trivial
  · exact ⟨goInt 0, by simp [Builtin.cap_, ht, ha, run_underlying hd], .int _ _⟩
  · rename_i sz tk es b o cap vs hsz hes hl him hv h1 hcap hx htk
    cases tk <;> try trivial
    exact ⟨goInt cap, by simp [Builtin.cap_, ht, ha, run_underlying hd], by rw [hx rfl]; exact .int _ _⟩
  · rename_i r off len cap co b off' h hc hcap ho hk
    cases co with
    | none => trivial
    | some c => exact ⟨goInt cap, by simp [Builtin.cap_, ht, ha, run_underlying hd], by rw [hc c rfl]; exact .int _ _⟩

theorem toInt_ok {src dst : TypeId} {ik k : IntKind} (h1 : P.underlying src = some (.int ik)) (h2 : P.underlying dst = some (.int k)) {x : EArg} {v : Value} (hv : V G (x.ev tmps) v) :
    PureOK P G s w (opV (rtOf P) tmps s (.toInt k x)) (convert src dst v) := by
  simp only [opV]
  generalize x.ev tmps = av at hv
  cases hv <;> try trivial
  exact ⟨_, by simp [convert, run_underlying h1, run_underlying h2, Conv.intToInt], .int _ _⟩

theorem runeStr_ok {src dst : TypeId} {ik : IntKind} (h1 : P.underlying src = some (.int ik)) (h2 : P.underlying dst = some .string) {x : EArg} {v : Value} (hv : V G (x.ev tmps) v) :
    PureOK P G s w (opV (rtOf P) tmps s (.runeStr x)) (convert src dst v) := by
  simp only [opV]
  generalize x.ev tmps = av at hv
  cases hv <;> try trivial
  exact ⟨_, by simp [convert, run_underlying h1, run_underlying h2, Conv.intToString], .str _⟩

theorem strStr_ok {src dst : TypeId} (h1 : P.underlying src = some .string) (h2 : P.underlying dst = some .string) {x : EArg} {v : Value} (hv : V G (x.ev tmps) v) :
    PureOK P G s w (opV (rtOf P) tmps s (.strStr x)) (convert src dst v) := by
  simp only [opV]
  generalize x.ev tmps = av at hv
  cases hv <;> try trivial
  exact ⟨_, by simp [convert, run_underlying h1, run_underlying h2], .str _⟩

theorem mkI_ok {t : TypeId} {d : TypeDesc} (h1 : P.underlying t = some d) (h2 : ∀ m, d ≠ .interface m) {x : EArg} {v : Value} (hv : V G (x.ev tmps) v) :
    PureOK P G s w (opV (rtOf P) tmps s (.mkI t x)) (Instr.makeInterface t v) := by
  simp only [opV]
  refine ⟨.iface t v, ?_, .iface _ _ _ hv⟩
  simp only [Instr.makeInterface, Sem.run_bind, run_underlying h1, Result.andThen_ok]
  cases d <;> first | rfl | (exact absurd rfl (h2 _))

theorem mkF_ok {fn : Fn} {fs cs : List EArg} {fv cv : Array Value} (hf : VL G (fs.map (EArg.ev tmps)) fv.toList) (hc : VL G (cs.map (EArg.ev tmps)) cv.toList) :
    PureOK P G s w (opV (rtOf P) tmps s (.mkF fn fs cs)) (Instr.makeFunc fn fv cv) := by
  simp only [opV]
  exact ⟨.func fn fv cv, rfl, .func fn _ _ _ _ (by simpa using hf.1) (by simpa using hc.1) (fun i a v h k => hf.2 i a v h (by simpa using k)) (fun i a v h k => hc.2 i a v h (by simpa using k))⟩

end
end GoE
