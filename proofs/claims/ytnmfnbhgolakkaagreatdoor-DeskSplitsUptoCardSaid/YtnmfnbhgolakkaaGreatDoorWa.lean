import Derived.Test.YtnmfnbhgolakkaaGreatDoorEe
import Derived.Test.YtnmfnbhgolakkaaGreatDoorProg
import Derived.KernelRfl
/- The seat's program for the evaluator: tables, the functions that are answered by themselves. No condition. -/
namespace Go.Proofs.YtnmfnbhgolakkaaGreatDoor
open Go GoE
noncomputable def P : Program := Tryz.prog
def lies : Nat → List (TypeId × Nat × Nat) := fun t => if t = 62 then [(61, 2, 0), (62, 2, 0), (89, 4, 1), (90, 4, 1), (127, 9, 0), (128, 9, 0), (160, 2, 0), (161, 2, 0), (205, 6, 2), (206, 6, 2)] else []
set_option maxRecDepth 100000
theorem lies_ok : ∀ t e n o, (e, n, o) ∈ lies t → P.cellsOf e = n ∧ o < n ∧ liesAt P P.depth e 1 o t 1 = true := by
  intro t e n o h
  unfold lies at h
  split at h
  · subst t
    have hall : ∀ x ∈ ([(61, 2, 0), (62, 2, 0), (89, 4, 1), (90, 4, 1), (127, 9, 0), (128, 9, 0), (160, 2, 0), (161, 2, 0), (205, 6, 2), (206, 6, 2)] : List (TypeId × Nat × Nat)), P.cellsOf x.1 = x.2.1 ∧ x.2.2 < x.2.1 ∧ liesAt P P.depth x.1 1 x.2.2 62 1 = true := by
      decide +kernel
    exact hall _ h
  · cases h
theorem gMaxLen : P.globals.findIdx? (·.name == "internal/bytealg.MaxLen") = some 0 := by kernel_rfl

noncomputable def L : Low := mkLow P (fun _ => some .junk) (fun t => t == 113 || t == 151 || t == 46) lies [0]
theorem L_ok : LowOK P L := mkLow_ok (by kernel_rfl) lies_ok
theorem L_pure : GlPure L := fun g a h => by cases h; rfl

theorem noEscape_ok : PrimOK P L 68 pNoEscape := pNoEscape_ok (fn := Tryz.f68) Tryz.func68 (by kernel_rfl) (by kernel_rfl) (by kernel_rfl) (by kernel_rfl)
theorem countString_ok : PrimOK P L 99 pCountString := pCountString_ok (fn := Tryz.f99) Tryz.func99 (by kernel_rfl) (by kernel_rfl) (by kernel_rfl) (by kernel_rfl)
theorem indexByteString_ok : PrimOK P L 101 pIndexByteString := pIndexByteString_ok (fn := Tryz.f101) Tryz.func101 (by kernel_rfl) (by kernel_rfl) (by kernel_rfl) (by kernel_rfl)

open Go.Shelf in
def ren : Ren := { f := fun x => if x = 217 then 60 else if x = 219 then 100 else if x = 224 then 155 else if x = 225 then 154 else if x = 266 then 101 else if x = 267 then 156 else if x = 314 then 210 else x, t := fun x => if x = 46 then 58 else if x = 51 then 278 else if x = 146 then 279 else x, g := fun x => if x = 1 then 0 else x }
open Go.Shelf in
theorem lays219 : Lays.n219 P ren := by
  constructor <;> first | kernel_rfl | (intro w; kernel_rfl)
theorem index_ok : PrimOK P L 100 pIndex := pIndex_ok (fn := Tryz.f100) Tryz.func100 (by kernel_rfl) (by kernel_rfl) (g := 0) (by simp [L, mkLow])
  (fun s sub m w hs hm => Go.Proofs.Any.stringslite_Index lays219 s sub m w hs hm)

def prims0 : Nat → Option (List AV → St → COut) := fun f => if f = 68 then some pNoEscape else if f = 99 then some pCountString else if f = 100 then some pIndex else if f = 101 then some pIndexByteString else none
theorem prims0_ok : ∀ f p, prims0 f = some p → PrimOK P L f p := by
  intro f p h
  unfold prims0 at h
  split at h
  · cases h; rename_i e; subst e; exact noEscape_ok
  split at h
  · cases h; rename_i e; subst e; exact countString_ok
  split at h
  · cases h; rename_i e; subst e; exact index_ok
  split at h
  · cases h; rename_i e; subst e; exact indexByteString_ok
  · cases h
noncomputable def X0 : EProg := mkProg0 P L prims0
theorem X0_ok : ProgOK P L X0 := mkProg0_ok L_ok prims0_ok
end Go.Proofs.YtnmfnbhgolakkaaGreatDoor

namespace Go.Proofs.YtnmfnbhgolakkaaGreatDoor
open Go GoE
def pTrue : List AV → St → COut := fun args s => match args with
  | [] => .ret (.bool true) s
  | _ => .fail "alive"
theorem wrap_i64 {x : Int} (h0 : -9223372036854775808 ≤ x) (h1 : x < 9223372036854775808) : IntKind.i64.wrap x = x := by
  simp [IntKind.wrap, IntKind.signed, IntKind.bits]; omega
end Go.Proofs.YtnmfnbhgolakkaaGreatDoor

/- Words of a line. No condition. -/
namespace Go.Proofs.YtnmfnbhgolakkaaGreatDoor
open Go GoE
set_option maxRecDepth 100000
def primsD : Nat → Option (List AV → St → COut) := fun f => if f = 18 then some pTrue else prims0 f
noncomputable def XD : EProg := mkProg P L (fun _ => killsOf) primsD
def parts_k0 : List Bool := [false, true, true, false, false, false, true, true, true, true, true, true, true, true, true, true, true, true, true, true, true, true, true, true, true, true, true, true, true, true, true, true, true, true, true, true]
def parts_b0 : EC := (.seq (.seq (.ops [⟨some 11, none, .mov (.t 5)⟩, ⟨some 12, none, .mov (.t 0)⟩, ⟨some 13, none, .lenS (.t 12)⟩, ⟨some 14, none, .bin .lss (.t 11) (.t 13)⟩, ⟨some 15, none, .mov (.t 14)⟩, ⟨some 16, some (15, true), .mov (.t 0)⟩, ⟨some 17, some (15, true), .mov (.t 5)⟩, ⟨some 18, some (15, true), .idxStr (.t 16) (.t 17)⟩, ⟨some 19, some (15, true), .bin .neq (.t 18) (.k (.int .u8 32))⟩, ⟨some 20, none, .pick (.t 15) (.t 19) (.k (.bool false))⟩])
  (.cond (.t 20) .skip (.exit 2)))
  (.block 3 (.ops [⟨some 21, none, .mov (.t 5)⟩, ⟨some 22, none, .bin .add (.t 21) (.k (.int .i64 1))⟩, ⟨some 5, none, .mov (.t 22)⟩])))
def parts_r1 : EC := (.seq (.seq (.ops [⟨some 23, none, .mov (.t 5)⟩, ⟨some 24, none, .mov (.t 4)⟩, ⟨some 25, none, .bin .gtr (.t 23) (.t 24)⟩])
  (.cond (.t 25) (.ops [⟨some 26, none, .mov (.t 3)⟩, ⟨some 27, none, .mov (.t 0)⟩, ⟨some 28, none, .mov (.t 4)⟩, ⟨some 29, none, .mov (.t 5)⟩, ⟨some 30, none, .slS (.t 27) (some (.t 28)) (some (.t 29))⟩, ⟨some 31, none, .bsliceV 1 false 1 [(.str [])] [(0, 1, (.t 30))]⟩, ⟨some 32, none, .append 9 1 16 false false (.t 26) (.t 31)⟩, ⟨some 3, none, .mov (.t 32)⟩]) .skip))
  (.ops [⟨some 33, none, .mov (.t 5)⟩, ⟨some 34, none, .bin .add (.t 33) (.k (.int .i64 1))⟩, ⟨some 4, none, .mov (.t 34)⟩]))
def parts_k2 : List Bool := [false, true, true, false, false, true, true, true, true, true, true, true, true, true, true, true, true, true, true, true, true, true, true, true, true, true, true, true, true, true, true, true, true, true, true, true]
def parts_b2 : EC := (.seq (.seq (.ops [⟨some 6, none, .mov (.t 4)⟩, ⟨some 7, none, .mov (.t 0)⟩, ⟨some 8, none, .lenS (.t 7)⟩, ⟨some 9, none, .bin .lss (.t 6) (.t 8)⟩])
  (.cond (.t 9) .skip (.exit 0)))
  (.block 1 (.seq (.ops [⟨some 10, none, .mov (.t 4)⟩, ⟨some 5, none, .mov (.t 10)⟩])
  (.seq (.block 2 (.loop parts_k0 parts_b0)) parts_r1))))
def parts_r3 : EC := (.seq (.ops [⟨some 35, none, .mov (.t 3)⟩, ⟨some 2, none, .mov (.t 35)⟩])
  .ret)
def parts_c : EC := (.seq (.ops [⟨some 2, none, .mov (.k .nilslice)⟩])
  (.seq (.ops [⟨some 3, none, .mov (.k .nilslice)⟩])
  (.seq (.seq (.ops [⟨some 4, none, .mov (.k (.int .i64 0))⟩])
  (.block 0 (.loop parts_k2 parts_b2))) parts_r3)))
def parts : EFn := ⟨36, [.tmp 2], parts_c⟩
theorem fn_parts : XD.fn 17 = some parts := by kernel_rfl
def count_k0 : List Bool := [false, false, true, true, false, false, true, true, true, true, true, true, true, true, true, true, true, true, true, true, true, true, true, true, true, true, true, true, true, true, true, true, true, true]
def count_b0 : EC := (.block 1 (.seq (.ops [⟨some 20, none, .mov (.t 0)⟩, ⟨some 21, none, .mov (.t 1)⟩, ⟨some 22, none, .callf 59 [(.t 20), (.t 21)]⟩, ⟨some 6, none, .mov (.t 22)⟩])
  (.seq (.seq (.ops [⟨some 23, none, .mov (.t 6)⟩, ⟨some 24, none, .bin .eql (.t 23) (.k (.int .i64 (-1)))⟩])
  (.cond (.t 24) (.seq (.ops [⟨some 25, none, .mov (.t 5)⟩, ⟨some 4, none, .mov (.t 25)⟩])
  .ret) .skip))
  (.seq (.ops [⟨some 26, none, .mov (.t 5)⟩, ⟨some 27, none, .bin .add (.t 26) (.k (.int .i64 1))⟩, ⟨some 5, none, .mov (.t 27)⟩])
  (.ops [⟨some 28, none, .mov (.t 0)⟩, ⟨some 29, none, .mov (.t 6)⟩, ⟨some 30, none, .mov (.t 1)⟩, ⟨some 31, none, .lenS (.t 30)⟩, ⟨some 32, none, .bin .add (.t 29) (.t 31)⟩, ⟨some 33, none, .slS (.t 28) (some (.t 32)) none⟩, ⟨some 0, none, .mov (.t 33)⟩])))))
def count_c : EC := (.seq (.ops [⟨some 4, none, .mov (.k (.int .i64 0))⟩])
  (.seq (.seq (.ops [⟨some 7, none, .mov (.t 1)⟩, ⟨some 8, none, .lenS (.t 7)⟩, ⟨some 9, none, .bin .eql (.t 8) (.k (.int .i64 0))⟩])
  (.cond (.t 9) (.seq (.ops [⟨some 10, none, .mov (.t 0)⟩, ⟨some 11, none, .callf 97 [(.t 10)]⟩, ⟨some 12, none, .bin .add (.t 11) (.k (.int .i64 1))⟩, ⟨some 4, none, .mov (.t 12)⟩])
  .ret) .skip))
  (.seq (.seq (.ops [⟨some 13, none, .mov (.t 1)⟩, ⟨some 14, none, .lenS (.t 13)⟩, ⟨some 15, none, .bin .eql (.t 14) (.k (.int .i64 1))⟩])
  (.cond (.t 15) (.seq (.ops [⟨some 16, none, .mov (.t 0)⟩, ⟨some 17, none, .mov (.t 1)⟩, ⟨some 18, none, .idxStr (.t 17) (.k (.int .i64 0))⟩, ⟨some 19, none, .callf 99 [(.t 16), (.t 18)]⟩, ⟨some 4, none, .mov (.t 19)⟩])
  .ret) .skip))
  (.seq (.ops [⟨some 5, none, .mov (.k (.int .i64 0))⟩])
  (.block 0 (.loop count_k0 count_b0))))))
def count : EFn := ⟨34, [.tmp 4], count_c⟩
theorem fn_count : XD.fn 58 = some count := by kernel_rfl
def genSplit_k0 : List Bool := [false, false, false, false, true, true, true, true, true, false, false, true, true, true, true, true, true, true, true, true, true, true, true, true, true, true, true, true, true, true, true, true, true, true, true, true, true, true, true, true, true, true, true, true, true, true, true, true, true, true, true, true, true, true, true, true, true, true, true, true, true, true, true, true, true, true]
def genSplit_b0 : EC := (.seq (.seq (.ops [⟨some 34, none, .mov (.t 10)⟩, ⟨some 35, none, .mov (.t 3)⟩, ⟨some 36, none, .bin .lss (.t 34) (.t 35)⟩])
  (.cond (.t 36) .skip (.exit 0)))
  (.block 1 (.seq (.ops [⟨some 37, none, .mov (.t 0)⟩, ⟨some 38, none, .mov (.t 1)⟩, ⟨some 39, none, .callf 59 [(.t 37), (.t 38)]⟩, ⟨some 11, none, .mov (.t 39)⟩])
  (.seq (.seq (.ops [⟨some 40, none, .mov (.t 11)⟩, ⟨some 41, none, .bin .lss (.t 40) (.k (.int .i64 0))⟩])
  (.cond (.t 41) (.exit 0) .skip))
  (.seq (.ops [⟨some 42, none, .mov (.t 9)⟩, ⟨some 43, none, .mov (.t 10)⟩, ⟨some 44, none, .mov (.t 0)⟩, ⟨some 45, none, .mov (.t 11)⟩, ⟨some 46, none, .mov (.t 2)⟩, ⟨some 47, none, .bin .add (.t 45) (.t 46)⟩, ⟨some 48, none, .slS (.t 44) none (some (.t 47))⟩, ⟨some 49, none, .idxS 1 (.t 42) (.t 43)⟩, ⟨none, none, .store 1 (.t 49) (.t 48)⟩])
  (.seq (.ops [⟨some 50, none, .mov (.t 0)⟩, ⟨some 51, none, .mov (.t 11)⟩, ⟨some 52, none, .mov (.t 1)⟩, ⟨some 53, none, .lenS (.t 52)⟩, ⟨some 54, none, .bin .add (.t 51) (.t 53)⟩, ⟨some 55, none, .slS (.t 50) (some (.t 54)) none⟩, ⟨some 0, none, .mov (.t 55)⟩])
  (.ops [⟨some 56, none, .mov (.t 10)⟩, ⟨some 57, none, .bin .add (.t 56) (.k (.int .i64 1))⟩, ⟨some 10, none, .mov (.t 57)⟩])))))))
def genSplit_r1 : EC := (.seq (.ops [⟨some 58, none, .mov (.t 9)⟩, ⟨some 59, none, .mov (.t 10)⟩, ⟨some 60, none, .mov (.t 0)⟩, ⟨some 61, none, .idxS 1 (.t 58) (.t 59)⟩, ⟨none, none, .store 1 (.t 61) (.t 60)⟩])
  (.seq (.ops [⟨some 62, none, .mov (.t 9)⟩, ⟨some 63, none, .mov (.t 10)⟩, ⟨some 64, none, .bin .add (.t 63) (.k (.int .i64 1))⟩, ⟨some 65, none, .slV 1 (.t 62) none (some (.t 64)) none⟩, ⟨some 8, none, .mov (.t 65)⟩])
  .ret))
def genSplit_c : EC := (.seq (.ops [⟨some 8, none, .mov (.k .nilslice)⟩])
  (.seq (.seq (.ops [⟨some 12, none, .mov (.t 3)⟩, ⟨some 13, none, .bin .eql (.t 12) (.k (.int .i64 0))⟩])
  (.cond (.t 13) (.seq (.ops [⟨some 8, none, .mov (.k .nilslice)⟩])
  .ret) .skip))
  (.seq (.seq (.ops [⟨some 14, none, .mov (.t 1)⟩, ⟨some 15, none, .bin .eql (.t 14) (.k (.str []))⟩])
  (.cond (.t 15) (.seq (.ops [⟨some 16, none, .mov (.t 0)⟩, ⟨some 17, none, .mov (.t 3)⟩, ⟨some 18, none, .callf 57 [(.t 16), (.t 17)]⟩, ⟨some 8, none, .mov (.t 18)⟩])
  .ret) .skip))
  (.seq (.seq (.ops [⟨some 19, none, .mov (.t 3)⟩, ⟨some 20, none, .bin .lss (.t 19) (.k (.int .i64 0))⟩])
  (.cond (.t 20) (.ops [⟨some 21, none, .mov (.t 0)⟩, ⟨some 22, none, .mov (.t 1)⟩, ⟨some 23, none, .callf 58 [(.t 21), (.t 22)]⟩, ⟨some 24, none, .bin .add (.t 23) (.k (.int .i64 1))⟩, ⟨some 3, none, .mov (.t 24)⟩]) .skip))
  (.seq (.ops [⟨some 25, none, .mov (.t 3)⟩, ⟨some 26, none, .mov (.t 0)⟩, ⟨some 27, none, .lenS (.t 26)⟩, ⟨some 28, none, .bin .add (.t 27) (.k (.int .i64 1))⟩, ⟨some 29, none, .maxmin false (.t 25) [(.t 28)]⟩, ⟨some 3, none, .mov (.t 29)⟩])
  (.seq (.ops [⟨some 30, none, .mov (.t 3)⟩, ⟨some 31, none, .mkS 9 1 16 false [(.str [])] (.t 30) (.t 30)⟩, ⟨some 9, none, .mov (.t 31)⟩])
  (.seq (.ops [⟨some 32, none, .mov (.t 3)⟩, ⟨some 33, none, .bin .sub (.t 32) (.k (.int .i64 1))⟩, ⟨some 3, none, .mov (.t 33)⟩])
  (.seq (.ops [⟨some 10, none, .mov (.k (.int .i64 0))⟩])
  (.seq (.block 0 (.loop genSplit_k0 genSplit_b0)) genSplit_r1)))))))))
def genSplit : EFn := ⟨66, [.tmp 8], genSplit_c⟩
theorem fn_genSplit : XD.fn 43 = some genSplit := by kernel_rfl
def split_c : EC := (.seq (.ops [⟨some 4, none, .mov (.k .nilslice)⟩])
  (.seq (.ops [⟨some 5, none, .mov (.t 0)⟩, ⟨some 6, none, .mov (.t 1)⟩, ⟨some 7, none, .callf 43 [(.t 5), (.t 6), (.k (.int .i64 0)), (.k (.int .i64 (-1)))]⟩, ⟨some 4, none, .mov (.t 7)⟩])
  .ret))
def split : EFn := ⟨8, [.tmp 4], split_c⟩
theorem fn_split : XD.fn 26 = some split := by kernel_rfl
def sindex_c : EC := (.seq (.ops [⟨some 4, none, .mov (.k (.int .i64 0))⟩])
  (.seq (.ops [⟨some 5, none, .mov (.t 0)⟩, ⟨some 6, none, .mov (.t 1)⟩, ⟨some 7, none, .callf 100 [(.t 5), (.t 6)]⟩, ⟨some 4, none, .mov (.t 7)⟩])
  .ret))
def sindex : EFn := ⟨8, [.tmp 4], sindex_c⟩
theorem fn_sindex : XD.fn 59 = some sindex := by kernel_rfl
def delFunc_k0 : List Bool := [false, false, true, true, true, false, false, true, true, true, true, true, true, true, true, true, true, true, true, true, true, true, true, true, true, true, true, true, true, true, true, true, true, true, true, true, true, true, true, true, true, true]
def delFunc_b0 : EC := (.seq (.seq (.ops [⟨some 16, none, .mov (.t 6)⟩, ⟨some 17, none, .mov (.t 0)⟩, ⟨some 18, none, .len (.t 17)⟩, ⟨some 19, none, .bin .lss (.t 16) (.t 18)⟩])
  (.cond (.t 19) .skip (.exit 0)))
  (.seq (.block 1 (.seq (.ops [⟨some 22, none, .mov (.t 0)⟩, ⟨some 23, none, .mov (.t 6)⟩, ⟨some 24, none, .idxS 1 (.t 22) (.t 23)⟩, ⟨some 25, none, .load 1 false (.t 24)⟩, ⟨some 7, none, .mov (.t 25)⟩])
  (.seq (.ops [⟨some 26, none, .mov (.t 1)⟩, ⟨some 27, none, .mov (.t 7)⟩, ⟨some 28, none, .callv (.t 26) [(.t 27)]⟩, ⟨some 29, none, .un .not (.t 28)⟩])
  (.cond (.t 29) (.seq (.ops [⟨some 30, none, .mov (.t 0)⟩, ⟨some 31, none, .mov (.t 5)⟩, ⟨some 32, none, .mov (.t 7)⟩, ⟨some 33, none, .idxS 1 (.t 30) (.t 31)⟩, ⟨none, none, .store 1 (.t 33) (.t 32)⟩])
  (.ops [⟨some 34, none, .mov (.t 5)⟩, ⟨some 35, none, .bin .add (.t 34) (.k (.int .i64 1))⟩, ⟨some 5, none, .mov (.t 35)⟩])) .skip))))
  (.ops [⟨some 20, none, .mov (.t 6)⟩, ⟨some 21, none, .bin .add (.t 20) (.k (.int .i64 1))⟩, ⟨some 6, none, .mov (.t 21)⟩])))
def delFunc_r1 : EC := (.seq (.ops [⟨some 36, none, .mov (.t 0)⟩, ⟨some 37, none, .mov (.t 5)⟩, ⟨some 38, none, .slV 1 (.t 36) (some (.t 37)) none none⟩, ⟨none, none, .clear 1 [(.str [])] (.t 38)⟩])
  (.seq (.ops [⟨some 39, none, .mov (.t 0)⟩, ⟨some 40, none, .mov (.t 5)⟩, ⟨some 41, none, .slV 1 (.t 39) none (some (.t 40)) none⟩, ⟨some 4, none, .mov (.t 41)⟩])
  .ret))
def delFunc_c : EC := (.seq (.ops [⟨some 4, none, .mov (.k .nilslice)⟩])
  (.seq (.ops [⟨some 8, none, .mov (.t 0)⟩, ⟨some 9, none, .mov (.t 1)⟩, ⟨some 10, none, .callf 42 [(.t 8), (.t 9)]⟩, ⟨some 5, none, .mov (.t 10)⟩])
  (.seq (.seq (.ops [⟨some 11, none, .mov (.t 5)⟩, ⟨some 12, none, .bin .eql (.t 11) (.k (.int .i64 (-1)))⟩])
  (.cond (.t 12) (.seq (.ops [⟨some 13, none, .mov (.t 0)⟩, ⟨some 4, none, .mov (.t 13)⟩])
  .ret) .skip))
  (.seq (.seq (.ops [⟨some 14, none, .mov (.t 5)⟩, ⟨some 15, none, .bin .add (.t 14) (.k (.int .i64 1))⟩, ⟨some 6, none, .mov (.t 15)⟩])
  (.block 0 (.loop delFunc_k0 delFunc_b0))) delFunc_r1))))
def delFunc : EFn := ⟨42, [.tmp 4], delFunc_c⟩
theorem fn_delFunc : XD.fn 25 = some delFunc := by kernel_rfl
def ixFunc_k0 : List Bool := [false, false, true, true, true, true, true, false, false, true, true, true, true, true, true, true, true, true, true]
def ixFunc_b0 : EC := (.seq (.ops [⟨some 9, none, .bin .lss (.t 8) (.t 7)⟩])
  (.seq (.cond (.t 9) .skip (.exit 0))
  (.seq (.block 1 (.seq (.ops [⟨some 10, none, .mov (.t 8)⟩, ⟨some 5, none, .mov (.t 10)⟩])
  (.seq (.ops [⟨some 11, none, .mov (.t 1)⟩, ⟨some 12, none, .mov (.t 0)⟩, ⟨some 13, none, .mov (.t 5)⟩, ⟨some 14, none, .idxS 1 (.t 12) (.t 13)⟩, ⟨some 15, none, .load 1 false (.t 14)⟩, ⟨some 16, none, .callv (.t 11) [(.t 15)]⟩])
  (.cond (.t 16) (.seq (.ops [⟨some 17, none, .mov (.t 5)⟩, ⟨some 4, none, .mov (.t 17)⟩])
  .ret) .skip))))
  (.ops [⟨some 18, none, .bin .add (.t 8) (.k (.int .i64 1))⟩, ⟨some 8, none, .mov (.t 18)⟩]))))
def ixFunc_r1 : EC := (.seq (.ops [⟨some 4, none, .mov (.k (.int .i64 (-1)))⟩])
  .ret)
def ixFunc_c : EC := (.seq (.ops [⟨some 4, none, .mov (.k (.int .i64 0))⟩])
  (.seq (.seq (.ops [⟨some 6, none, .mov (.t 0)⟩, ⟨some 7, none, .len (.t 6)⟩, ⟨some 8, none, .mov (.k (.int .i64 0))⟩])
  (.block 0 (.loop ixFunc_k0 ixFunc_b0))) ixFunc_r1))
def ixFunc : EFn := ⟨19, [.tmp 4], ixFunc_c⟩
theorem fn_ixFunc : XD.fn 42 = some ixFunc := by kernel_rfl
def isEmpty_c : EC := (.seq (.ops [⟨some 2, none, .mov (.k (.bool false))⟩])
  (.seq (.ops [⟨some 3, none, .mov (.t 0)⟩, ⟨some 4, none, .bin .eql (.t 3) (.k (.str []))⟩, ⟨some 2, none, .mov (.t 4)⟩])
  .ret))
def isEmpty : EFn := ⟨5, [.tmp 2], isEmpty_c⟩
theorem fn_isEmpty : XD.fn 27 = some isEmpty := by kernel_rfl
def deskSplit_c : EC := (.seq (.ops [⟨some 2, none, .mov (.k .nilslice)⟩])
  (.seq (.ops [⟨some 3, none, .mov (.t 0)⟩, ⟨some 4, none, .callf 26 [(.t 3), (.k (.str [32]))]⟩, ⟨some 5, none, .callf 25 [(.t 4), (.k (.func (.func 27) [] []))]⟩, ⟨some 2, none, .mov (.t 5)⟩])
  .ret))
def deskSplit : EFn := ⟨6, [.tmp 2], deskSplit_c⟩
theorem fn_deskSplit : XD.fn 16 = some deskSplit := by kernel_rfl
def deskSplits_k0 : List Bool := [true, true, true, false, false, false, true, true, true, true, true, true, true, true, true, true, true, true, true, true, true, true, true, true, true, true, true, true, true, true, true, true, true, true, true, true, true, true, true]
def deskSplits_b0 : EC := (.seq (.seq (.ops [⟨some 10, none, .mov (.t 5)⟩, ⟨some 11, none, .mov (.t 4)⟩, ⟨some 12, none, .len (.t 11)⟩, ⟨some 13, none, .bin .lss (.t 10) (.t 12)⟩])
  (.cond (.t 13) .skip (.exit 0)))
  (.seq (.block 1 (.seq (.draw [⟨⟨some 16, none, .mov (.t 5)⟩, false, [17, 18], []⟩, ⟨⟨some 17, none, .mov (.t 3)⟩, true, [16], []⟩, ⟨⟨some 18, none, .len (.t 17)⟩, true, [16], []⟩, ⟨⟨some 19, none, .bin .geq (.t 16) (.t 18)⟩, true, [], []⟩, ⟨⟨some 20, none, .mov (.t 19)⟩, true, [], []⟩, ⟨⟨some 21, some (20, false), .mov (.t 3)⟩, false, [22, 25, 26, 27, 28], []⟩, ⟨⟨some 22, some (20, false), .mov (.t 5)⟩, false, [21, 25, 26, 27, 28], []⟩, ⟨⟨some 23, some (20, false), .idxS 1 (.t 21) (.t 22)⟩, false, [25, 26, 27, 28], []⟩, ⟨⟨some 24, some (20, false), .load 1 false (.t 23)⟩, false, [25, 26, 27, 28], []⟩, ⟨⟨some 25, some (20, false), .mov (.t 4)⟩, false, [21, 22, 23, 24, 26], []⟩, ⟨⟨some 26, some (20, false), .mov (.t 5)⟩, true, [21, 22, 23, 24, 25], []⟩, ⟨⟨some 27, some (20, false), .idxS 1 (.t 25) (.t 26)⟩, true, [21, 22, 23, 24], []⟩, ⟨⟨some 28, some (20, false), .load 1 false (.t 27)⟩, true, [21, 22, 23, 24], []⟩, ⟨⟨some 29, some (20, false), .bin .neq (.t 24) (.t 28)⟩, true, [], []⟩, ⟨⟨some 30, none, .pick (.t 20) (.k (.bool true)) (.t 29)⟩, true, [], []⟩])
  (.cond (.t 30) (.seq (.ops [⟨some 2, none, .mov (.k (.bool false))⟩])
  .ret) .skip)))
  (.ops [⟨some 14, none, .mov (.t 5)⟩, ⟨some 15, none, .bin .add (.t 14) (.k (.int .i64 1))⟩, ⟨some 5, none, .mov (.t 15)⟩])))
def deskSplits_r1 : EC := (.seq (.ops [⟨some 31, none, .mov (.t 3)⟩, ⟨some 32, none, .len (.t 31)⟩, ⟨some 33, none, .mov (.t 4)⟩, ⟨some 34, none, .len (.t 33)⟩, ⟨some 35, none, .bin .eql (.t 32) (.t 34)⟩, ⟨some 36, none, .mov (.t 35)⟩, ⟨some 37, some (36, true), .callf 18 []⟩, ⟨some 38, none, .pick (.t 36) (.t 37) (.k (.bool false))⟩, ⟨some 2, none, .mov (.t 38)⟩])
  .ret)
def deskSplits_c : EC := (.seq (.ops [⟨some 2, none, .mov (.k (.bool false))⟩])
  (.seq (.ops [⟨some 6, none, .mov (.t 0)⟩, ⟨some 7, none, .callf 16 [(.t 6)]⟩, ⟨some 8, none, .mov (.t 0)⟩, ⟨some 9, none, .callf 17 [(.t 8)]⟩, ⟨some 3, none, .mov (.t 7)⟩, ⟨some 4, none, .mov (.t 9)⟩])
  (.seq (.seq (.ops [⟨some 5, none, .mov (.k (.int .i64 0))⟩])
  (.block 0 (.loop deskSplits_k0 deskSplits_b0))) deskSplits_r1)))
def deskSplits : EFn := ⟨39, [.tmp 2], deskSplits_c⟩
theorem fn_deskSplits : XD.fn 6 = some deskSplits := by kernel_rfl

/-- A list of texts that grows. -/
def OutRel (s : St) (av : AV) (ws : List (List UInt8)) : Prop := (ws = [] ∧ av = .nilslice) ∨ ws ≠ [] ∧ ∃ k, av = .slice 1 (.id k) (ws.map AV.str) ∧ s.heap.get k = some (.tok 9 false)

theorem OutRel.append {R : Rt} {s : St} {av : AV} {ws : List (List UInt8)} (h : OutRel s av ws) {w : List UInt8} {tmps : List AV} {a x : EArg} (ha : a.ev tmps = av) (hx : x.ev tmps = .slice 1 .exact [.str w]) (hl : (ws.length + 1) * 16 ≤ 1099511627776) :
    ∃ av' s', opV R tmps s (.append 9 1 16 false false a x) = .eff av' s' ∧ OutRel s' av' (ws ++ [w]) := by
  rcases h with ⟨rfl, rfl⟩ | ⟨_, k, rfl, hk⟩
  · refine ⟨.slice 1 (.id s.next) [.str w], s.alloc (.tok 9 false), ?_, .inr ⟨by simp, s.next, rfl, by rw [St.get_alloc, if_pos rfl]⟩⟩
    simp [opV, ha, hx, slElems, appendV]
  · refine ⟨.slice 1 (.id s.next) (ws.map AV.str ++ [.str w]), (s.upd k (.tok 9 true)).alloc (.tok 9 false), ?_, .inr ⟨by simp, s.next, by simp, by rw [St.get_alloc]; rw [if_pos]; rfl⟩⟩
    have h1 : (ws.map AV.str).length = ws.length := by simp
    simp only [opV, ha, hx, slElems, if_true, appendV, hk]
    simp only [h1, List.length_singleton]
    rw [if_pos ⟨hl, by omega⟩]
    simp

def pF (s : List UInt8) (out : AV) (i n : Nat) : Fr := ⟨[.str s, .junk, .junk, out, .int .i64 i, .int .i64 n, .junk, .junk, .junk, .junk, .junk, .junk, .junk, .junk, .junk, .junk, .junk, .junk, .junk, .junk, .junk, .junk, .junk, .junk, .junk, .junk, .junk, .junk, .junk, .junk, .junk, .junk, .junk, .junk, .junk, .junk], [], .off⟩

def wordLen : List UInt8 → Nat
  | [] => 0
  | c :: l => if c = 32 then 0 else wordLen l + 1

theorem drop_cons_get {l : List UInt8} {n : Nat} {c : UInt8} {r : List UInt8} (h : l.drop n = c :: r) : l[n]? = some c ∧ n < l.length ∧ l.drop (n + 1) = r := by
  have hn : n < l.length := by
    rcases Nat.lt_or_ge n l.length with h1 | h1
    · exact h1
    · rw [List.drop_of_length_le h1] at h; cases h
  rw [List.drop_eq_getElem_cons hn] at h
  cases h
  exact ⟨List.getElem?_eq_getElem hn, hn, rfl⟩

theorem parts_inner (s : List UInt8) (hs : s.length < 4294967296) : ∀ (m i n : Nat) (out : AV) (fr : Fr) (st : St) (Q : EExit → Fr → St → Prop), s.length - n = m → n ≤ s.length → fr.kill parts_k0 = pF s out i n →
    (∀ v11 v12 v13 v14 v15 v16 v17 v18 v19 v20, Q (.exit 2) ⟨[.str s, .junk, .junk, out, .int .i64 i, .int .i64 (n + wordLen (s.drop n) : Nat), .junk, .junk, .junk, .junk, .junk, v11, v12, v13, v14, v15, v16, v17, v18, v19, v20, .junk, .junk, .junk, .junk, .junk, .junk, .junk, .junk, .junk, .junk, .junk, .junk, .junk, .junk, .junk], [], .off⟩ st) → WC XD (.loop parts_k0 parts_b0) fr st Q := by
  intro m
  induction m with
  | zero =>
    intro i n out fr st Q hm hn hk hQ
    refine W_loop ?_
    rw [hk]
    unfold parts_b0 pF
    refine W_seq (W_seq (W_ops ?_))
    first | refine WO_val (v := .int _ _) rfl rfl ?_ | refine WO_val (v := .bool _) rfl rfl ?_ | refine WO_val (v := .str _) rfl rfl ?_ | refine WO_val (v := .ptr _ _) rfl rfl ?_ | refine WO_val (v := .iptr _ _) rfl rfl ?_
    dsimp only [Fr.put, lset]
    first | refine WO_val (v := .int _ _) rfl rfl ?_ | refine WO_val (v := .bool _) rfl rfl ?_ | refine WO_val (v := .str _) rfl rfl ?_ | refine WO_val (v := .ptr _ _) rfl rfl ?_ | refine WO_val (v := .iptr _ _) rfl rfl ?_
    dsimp only [Fr.put, lset]
    first | refine WO_val (v := .int _ _) rfl rfl ?_ | refine WO_val (v := .bool _) rfl rfl ?_ | refine WO_val (v := .str _) rfl rfl ?_ | refine WO_val (v := .ptr _ _) rfl rfl ?_ | refine WO_val (v := .iptr _ _) rfl rfl ?_
    dsimp only [Fr.put, lset]
    refine WO_val (v := .bool false) rfl (congrArg (fun b => ORes.val (.bool b)) (decide_eq_false (by omega))) ?_
    dsimp only [Fr.put, lset]
    first | refine WO_val (v := .int _ _) rfl rfl ?_ | refine WO_val (v := .bool _) rfl rfl ?_ | refine WO_val (v := .str _) rfl rfl ?_ | refine WO_val (v := .ptr _ _) rfl rfl ?_ | refine WO_val (v := .iptr _ _) rfl rfl ?_
    dsimp only [Fr.put, lset]
    refine WO_skip rfl ?_
    dsimp only [Fr.put, lset]
    refine WO_skip rfl ?_
    dsimp only [Fr.put, lset]
    refine WO_skip rfl ?_
    dsimp only [Fr.put, lset]
    refine WO_skip rfl ?_
    dsimp only [Fr.put, lset]
    first | refine WO_val (v := .int _ _) rfl rfl ?_ | refine WO_val (v := .bool _) rfl rfl ?_ | refine WO_val (v := .str _) rfl rfl ?_ | refine WO_val (v := .ptr _ _) rfl rfl ?_ | refine WO_val (v := .iptr _ _) rfl rfl ?_
    dsimp only [Fr.put, lset]
    refine WO_nil (k_seq ?_)
    refine W_cond rfl (fun h => by cases h) (fun h => ?_)
    refine W_exit (k_seq_exit (k_loop_exit ?_))
    have hw : s.drop n = [] := List.drop_of_length_le (by omega)
    have := hQ (.int .i64 n) (.str s) (.int .i64 s.length) (.bool false) (.bool false) .undef .undef .undef .undef (.bool false)
    rw [hw] at this
    exact this
  | succ m ih =>
    intro i n out fr st Q hm hn hk hQ
    refine W_loop ?_
    rw [hk]
    unfold parts_b0 pF
    obtain ⟨c, r, hcr⟩ : ∃ c r, s.drop n = c :: r := by
      cases hd : s.drop n with
      | nil => have := congrArg List.length hd; simp at this; omega
      | cons c r => exact ⟨c, r, rfl⟩
    obtain ⟨hc, hlt, hr⟩ := drop_cons_get hcr
    refine W_seq (W_seq (W_ops ?_))
    first | refine WO_val (v := .int _ _) rfl rfl ?_ | refine WO_val (v := .bool _) rfl rfl ?_ | refine WO_val (v := .str _) rfl rfl ?_ | refine WO_val (v := .ptr _ _) rfl rfl ?_ | refine WO_val (v := .iptr _ _) rfl rfl ?_
    dsimp only [Fr.put, lset]
    first | refine WO_val (v := .int _ _) rfl rfl ?_ | refine WO_val (v := .bool _) rfl rfl ?_ | refine WO_val (v := .str _) rfl rfl ?_ | refine WO_val (v := .ptr _ _) rfl rfl ?_ | refine WO_val (v := .iptr _ _) rfl rfl ?_
    dsimp only [Fr.put, lset]
    first | refine WO_val (v := .int _ _) rfl rfl ?_ | refine WO_val (v := .bool _) rfl rfl ?_ | refine WO_val (v := .str _) rfl rfl ?_ | refine WO_val (v := .ptr _ _) rfl rfl ?_ | refine WO_val (v := .iptr _ _) rfl rfl ?_
    dsimp only [Fr.put, lset]
    refine WO_val (v := .bool true) rfl (congrArg (fun b => ORes.val (.bool b)) (decide_eq_true (by omega))) ?_
    dsimp only [Fr.put, lset]
    first | refine WO_val (v := .int _ _) rfl rfl ?_ | refine WO_val (v := .bool _) rfl rfl ?_ | refine WO_val (v := .str _) rfl rfl ?_ | refine WO_val (v := .ptr _ _) rfl rfl ?_ | refine WO_val (v := .iptr _ _) rfl rfl ?_
    dsimp only [Fr.put, lset]
    first | refine WO_val (v := .int _ _) rfl rfl ?_ | refine WO_val (v := .bool _) rfl rfl ?_ | refine WO_val (v := .str _) rfl rfl ?_ | refine WO_val (v := .ptr _ _) rfl rfl ?_ | refine WO_val (v := .iptr _ _) rfl rfl ?_
    dsimp only [Fr.put, lset]
    first | refine WO_val (v := .int _ _) rfl rfl ?_ | refine WO_val (v := .bool _) rfl rfl ?_ | refine WO_val (v := .str _) rfl rfl ?_ | refine WO_val (v := .ptr _ _) rfl rfl ?_ | refine WO_val (v := .iptr _ _) rfl rfl ?_
    dsimp only [Fr.put, lset]
    refine WO_idxStr (c := c) rfl rfl rfl (by omega) (by simpa using hc) ?_
    dsimp only [Fr.put, lset]
    have hcne : ((c.toNat : Int) != 32) = decide (c ≠ 32) := by
      by_cases h32 : c = 32
      · subst h32; rfl
      · have : c.toNat ≠ 32 := fun h => h32 (UInt8.toNat_inj.1 h)
        simp [h32]; omega
    refine WO_val (v := .bool (decide (c ≠ 32))) rfl (congrArg (fun b => ORes.val (.bool b)) hcne) ?_
    dsimp only [Fr.put, lset]
    first | refine WO_val (v := .int _ _) rfl rfl ?_ | refine WO_val (v := .bool _) rfl rfl ?_ | refine WO_val (v := .str _) rfl rfl ?_ | refine WO_val (v := .ptr _ _) rfl rfl ?_ | refine WO_val (v := .iptr _ _) rfl rfl ?_
    dsimp only [Fr.put, lset]
    refine WO_nil (k_seq ?_)
    by_cases h32 : c = 32
    · refine W_cond (t := false) (by simp [h32]; rfl) (fun h => by cases h) (fun _ => ?_)
      refine W_exit (k_seq_exit (k_loop_exit ?_))
      have := hQ (.int .i64 n) (.str s) (.int .i64 s.length) (.bool true) (.bool true) (.str s) (.int .i64 n) (.int .u8 c.toNat) (.bool (decide (c ≠ 32))) (.bool (decide (c ≠ 32)))
      rw [hcr] at this
      simp only [wordLen, h32, if_true, Nat.add_zero] at this
      simp only [h32]
      exact this
    · refine W_cond (t := true) (by simp [h32]; rfl) (fun _ => ?_) (fun h => by cases h)
      refine W_skip (k_seq (W_block (W_ops ?_)))
      first | refine WO_val (v := .int _ _) rfl rfl ?_ | refine WO_val (v := .bool _) rfl rfl ?_ | refine WO_val (v := .str _) rfl rfl ?_ | refine WO_val (v := .ptr _ _) rfl rfl ?_ | refine WO_val (v := .iptr _ _) rfl rfl ?_
      dsimp only [Fr.put, lset]
      refine WO_val (v := .int .i64 ((n + 1 : Nat) : Int)) rfl (congrArg (fun z => ORes.val (.int .i64 z)) (by rw [wrap_i64 (by omega) (by omega)]; omega)) ?_
      dsimp only [Fr.put, lset]
      first | refine WO_val (v := .int _ _) rfl rfl ?_ | refine WO_val (v := .bool _) rfl rfl ?_ | refine WO_val (v := .str _) rfl rfl ?_ | refine WO_val (v := .ptr _ _) rfl rfl ?_ | refine WO_val (v := .iptr _ _) rfl rfl ?_
      dsimp only [Fr.put, lset]
      refine WO_nil (k_block 3 (k_loop ?_))
      refine ih i (n + 1) out _ st Q (by omega) (by omega) rfl ?_
      intro v11 v12 v13 v14 v15 v16 v17 v18 v19 v20
      have := hQ v11 v12 v13 v14 v15 v16 v17 v18 v19 v20
      rw [hcr] at this
      simp only [wordLen, h32, if_false] at this
      rw [hr, show n + 1 + wordLen r = n + (wordLen r + 1) by omega]
      exact this

def wordsF : Nat → List UInt8 → List (List UInt8)
  | 0, _ => []
  | f + 1, l => if l = [] then [] else (if wordLen l = 0 then [] else [l.take (wordLen l)]) ++ wordsF f (l.drop (wordLen l + 1))

theorem wordLen_le : ∀ (l : List UInt8), wordLen l ≤ l.length
  | [] => Nat.le_refl _
  | c :: l => by
    simp only [wordLen]
    split
    · omega
    · have := wordLen_le l; simp; omega

def pG (s : List UInt8) (out : AV) (i : Nat) : Fr := ⟨[.str s, .junk, .junk, out, .int .i64 i, .junk, .junk, .junk, .junk, .junk, .junk, .junk, .junk, .junk, .junk, .junk, .junk, .junk, .junk, .junk, .junk, .junk, .junk, .junk, .junk, .junk, .junk, .junk, .junk, .junk, .junk, .junk, .junk, .junk, .junk, .junk], [], .off⟩

theorem parts_loop (s : List UInt8) (hs : s.length < 4294967296) : ∀ (f i : Nat) (ws : List (List UInt8)) (out : AV) (fr : Fr) (st : St) (Q : EExit → Fr → St → Prop), s.length < i + f → i ≤ s.length + 1 → ws.length ≤ i → OutRel st out ws → fr.kill parts_k2 = pG s out i →
    (∀ (i' : Nat) (out' : AV) (st' : St) (v6 v7 v8 v9 : AV), OutRel st' out' (ws ++ wordsF f (s.drop i)) →
      Q (.exit 0) ⟨[.str s, .junk, .junk, out', .int .i64 i', .junk, v6, v7, v8, v9, .junk, .junk, .junk, .junk, .junk, .junk, .junk, .junk, .junk, .junk, .junk, .junk, .junk, .junk, .junk, .junk, .junk, .junk, .junk, .junk, .junk, .junk, .junk, .junk, .junk, .junk], [], .off⟩ st') → WC XD (.loop parts_k2 parts_b2) fr st Q := by
  intro f
  induction f with
  | zero =>
    intro i ws out fr st Q hf hi hl ho hk hQ
    refine W_loop ?_
    rw [hk]
    unfold parts_b2 pG
    refine W_seq (W_seq (W_ops ?_))
    first | refine WO_val (v := .int _ _) rfl rfl ?_ | refine WO_val (v := .bool _) rfl rfl ?_ | refine WO_val (v := .str _) rfl rfl ?_ | refine WO_val (v := .ptr _ _) rfl rfl ?_ | refine WO_val (v := .iptr _ _) rfl rfl ?_
    dsimp only [Fr.put, lset]
    first | refine WO_val (v := .int _ _) rfl rfl ?_ | refine WO_val (v := .bool _) rfl rfl ?_ | refine WO_val (v := .str _) rfl rfl ?_ | refine WO_val (v := .ptr _ _) rfl rfl ?_ | refine WO_val (v := .iptr _ _) rfl rfl ?_
    dsimp only [Fr.put, lset]
    first | refine WO_val (v := .int _ _) rfl rfl ?_ | refine WO_val (v := .bool _) rfl rfl ?_ | refine WO_val (v := .str _) rfl rfl ?_ | refine WO_val (v := .ptr _ _) rfl rfl ?_ | refine WO_val (v := .iptr _ _) rfl rfl ?_
    dsimp only [Fr.put, lset]
    refine WO_val (v := .bool false) rfl (congrArg (fun b => ORes.val (.bool b)) (decide_eq_false (by omega))) ?_
    dsimp only [Fr.put, lset]
    refine WO_nil (k_seq ?_)
    refine W_cond rfl (fun h => by cases h) (fun h => ?_)
    refine W_exit (k_seq_exit (k_loop_exit ?_))
    exact hQ i out st _ _ _ _ (by simpa [wordsF] using ho)
  | succ f ih =>
    intro i ws out fr st Q hf hi hl ho hk hQ
    refine W_loop ?_
    rw [hk]
    unfold parts_b2 pG
    refine W_seq (W_seq (W_ops ?_))
    first | refine WO_val (v := .int _ _) rfl rfl ?_ | refine WO_val (v := .bool _) rfl rfl ?_ | refine WO_val (v := .str _) rfl rfl ?_ | refine WO_val (v := .ptr _ _) rfl rfl ?_ | refine WO_val (v := .iptr _ _) rfl rfl ?_
    dsimp only [Fr.put, lset]
    first | refine WO_val (v := .int _ _) rfl rfl ?_ | refine WO_val (v := .bool _) rfl rfl ?_ | refine WO_val (v := .str _) rfl rfl ?_ | refine WO_val (v := .ptr _ _) rfl rfl ?_ | refine WO_val (v := .iptr _ _) rfl rfl ?_
    dsimp only [Fr.put, lset]
    first | refine WO_val (v := .int _ _) rfl rfl ?_ | refine WO_val (v := .bool _) rfl rfl ?_ | refine WO_val (v := .str _) rfl rfl ?_ | refine WO_val (v := .ptr _ _) rfl rfl ?_ | refine WO_val (v := .iptr _ _) rfl rfl ?_
    dsimp only [Fr.put, lset]
    by_cases hlt : i < s.length
    · refine WO_val (v := .bool true) rfl (congrArg (fun b => ORes.val (.bool b)) (decide_eq_true (by omega))) ?_
      dsimp only [Fr.put, lset]
      refine WO_nil (k_seq ?_)
      refine W_cond rfl (fun _ => ?_) (fun h => by cases h)
      refine W_skip (k_seq (W_block (W_seq (W_ops ?_))))
      first | refine WO_val (v := .int _ _) rfl rfl ?_ | refine WO_val (v := .bool _) rfl rfl ?_ | refine WO_val (v := .str _) rfl rfl ?_ | refine WO_val (v := .ptr _ _) rfl rfl ?_ | refine WO_val (v := .iptr _ _) rfl rfl ?_
      dsimp only [Fr.put, lset]
      first | refine WO_val (v := .int _ _) rfl rfl ?_ | refine WO_val (v := .bool _) rfl rfl ?_ | refine WO_val (v := .str _) rfl rfl ?_ | refine WO_val (v := .ptr _ _) rfl rfl ?_ | refine WO_val (v := .iptr _ _) rfl rfl ?_
      dsimp only [Fr.put, lset]
      refine WO_nil (k_seq (W_seq (W_block ?_)))
      refine parts_inner s hs (s.length - i) i i out _ st _ rfl (by omega) rfl ?_
      intro v11 v12 v13 v14 v15 v16 v17 v18 v19 v20
      refine k_block_exit (k_seq ?_)
      have hwl := wordLen_le (s.drop i)
      rw [List.length_drop] at hwl
      have hne : s.drop i ≠ [] := fun h => by have := congrArg List.length h; simp at this; omega
      have hnx : s.drop (i + wordLen (s.drop i) + 1) = (s.drop i).drop (wordLen (s.drop i) + 1) := by rw [List.drop_drop]; first | rfl | (congr 1; omega)
      generalize hkk : wordLen (s.drop i) = k at hwl hnx
      unfold parts_r1
      refine W_seq (W_seq (W_ops ?_))
      first | refine WO_val (v := .int _ _) rfl rfl ?_ | refine WO_val (v := .bool _) rfl rfl ?_ | refine WO_val (v := .str _) rfl rfl ?_ | refine WO_val (v := .ptr _ _) rfl rfl ?_ | refine WO_val (v := .iptr _ _) rfl rfl ?_
      dsimp only [Fr.put, lset]
      first | refine WO_val (v := .int _ _) rfl rfl ?_ | refine WO_val (v := .bool _) rfl rfl ?_ | refine WO_val (v := .str _) rfl rfl ?_ | refine WO_val (v := .ptr _ _) rfl rfl ?_ | refine WO_val (v := .iptr _ _) rfl rfl ?_
      dsimp only [Fr.put, lset]
      by_cases hk0 : k = 0
      · refine WO_val (v := .bool false) rfl (congrArg (fun b => ORes.val (.bool b)) (decide_eq_false (by omega))) ?_
        dsimp only [Fr.put, lset]
        refine WO_nil (k_seq ?_)
        refine W_cond rfl (fun h => by cases h) (fun _ => ?_)
        refine W_skip (k_seq (W_ops ?_))
        first | refine WO_val (v := .int _ _) rfl rfl ?_ | refine WO_val (v := .bool _) rfl rfl ?_ | refine WO_val (v := .str _) rfl rfl ?_ | refine WO_val (v := .ptr _ _) rfl rfl ?_ | refine WO_val (v := .iptr _ _) rfl rfl ?_
        dsimp only [Fr.put, lset]
        refine WO_val (v := .int .i64 ((i + k + 1 : Nat) : Int)) rfl (congrArg (fun z => ORes.val (.int .i64 z)) (by rw [wrap_i64 (by omega) (by omega)]; omega)) ?_
        dsimp only [Fr.put, lset]
        first | refine WO_val (v := .int _ _) rfl rfl ?_ | refine WO_val (v := .bool _) rfl rfl ?_ | refine WO_val (v := .str _) rfl rfl ?_ | refine WO_val (v := .ptr _ _) rfl rfl ?_ | refine WO_val (v := .iptr _ _) rfl rfl ?_
        dsimp only [Fr.put, lset]
        refine WO_nil (k_block 1 (k_loop ?_))
        refine ih (i + k + 1) ws out _ st Q (by omega) (by omega) (by omega) ho rfl ?_
        intro i' out' st' v6 v7 v8 v9 ho'
        refine hQ i' out' st' v6 v7 v8 v9 ?_
        have e : wordsF (f + 1) (s.drop i) = wordsF f (s.drop (i + k + 1)) := by
          have e2 : wordsF (f + 1) (s.drop i) = (if wordLen (s.drop i) = 0 then [] else [(s.drop i).take (wordLen (s.drop i))]) ++ wordsF f ((s.drop i).drop (wordLen (s.drop i) + 1)) := by
            simp only [wordsF, if_neg hne]
          rw [e2, hkk, if_pos hk0, List.nil_append, hnx]
        rw [e]
        exact ho'
      · refine WO_val (v := .bool true) rfl (congrArg (fun b => ORes.val (.bool b)) (decide_eq_true (by omega))) ?_
        dsimp only [Fr.put, lset]
        refine WO_nil (k_seq ?_)
        refine W_cond rfl (fun _ => ?_) (fun h => by cases h)
        refine W_ops ?_
        refine WO_val (v := out) rfl rfl ?_
        dsimp only [Fr.put, lset]
        first | refine WO_val (v := .int _ _) rfl rfl ?_ | refine WO_val (v := .bool _) rfl rfl ?_ | refine WO_val (v := .str _) rfl rfl ?_ | refine WO_val (v := .ptr _ _) rfl rfl ?_ | refine WO_val (v := .iptr _ _) rfl rfl ?_
        dsimp only [Fr.put, lset]
        first | refine WO_val (v := .int _ _) rfl rfl ?_ | refine WO_val (v := .bool _) rfl rfl ?_ | refine WO_val (v := .str _) rfl rfl ?_ | refine WO_val (v := .ptr _ _) rfl rfl ?_ | refine WO_val (v := .iptr _ _) rfl rfl ?_
        dsimp only [Fr.put, lset]
        first | refine WO_val (v := .int _ _) rfl rfl ?_ | refine WO_val (v := .bool _) rfl rfl ?_ | refine WO_val (v := .str _) rfl rfl ?_ | refine WO_val (v := .ptr _ _) rfl rfl ?_ | refine WO_val (v := .iptr _ _) rfl rfl ?_
        dsimp only [Fr.put, lset]
        refine WO_slS (r := (s.drop i).take k) rfl rfl rfl rfl (by omega) (by omega) (by omega) (by congr 1; omega) ?_
        dsimp only [Fr.put, lset]
        refine WO_val (v := .slice 1 .exact [.str _]) rfl rfl ?_
        dsimp only [Fr.put, lset]
        obtain ⟨av', s', hop, hrel⟩ := OutRel.append (R := XD.rt) ho (w := (s.drop i).take k) (tmps := [.str s, .junk, .junk, out]) (a := .k out) (x := .k (.slice 1 .exact [.str ((s.drop i).take k)])) rfl rfl (by omega)
        refine WO_eff (v := av') (s' := s') rfl hop ?_
        dsimp only [Fr.put, lset]
        refine WO_val (v := av') rfl rfl ?_
        dsimp only [Fr.put, lset]
        refine WO_nil (k_seq (W_ops ?_))
        first | refine WO_val (v := .int _ _) rfl rfl ?_ | refine WO_val (v := .bool _) rfl rfl ?_ | refine WO_val (v := .str _) rfl rfl ?_ | refine WO_val (v := .ptr _ _) rfl rfl ?_ | refine WO_val (v := .iptr _ _) rfl rfl ?_
        dsimp only [Fr.put, lset]
        refine WO_val (v := .int .i64 ((i + k + 1 : Nat) : Int)) rfl (congrArg (fun z => ORes.val (.int .i64 z)) (by rw [wrap_i64 (by omega) (by omega)]; omega)) ?_
        dsimp only [Fr.put, lset]
        first | refine WO_val (v := .int _ _) rfl rfl ?_ | refine WO_val (v := .bool _) rfl rfl ?_ | refine WO_val (v := .str _) rfl rfl ?_ | refine WO_val (v := .ptr _ _) rfl rfl ?_ | refine WO_val (v := .iptr _ _) rfl rfl ?_
        dsimp only [Fr.put, lset]
        refine WO_nil (k_block 1 (k_loop ?_))
        refine ih (i + k + 1) (ws ++ [(s.drop i).take k]) av' _ s' Q (by omega) (by omega) (by simp; omega) hrel rfl ?_
        intro i' out' st' v6 v7 v8 v9 ho'
        refine hQ i' out' st' v6 v7 v8 v9 ?_
        have e : wordsF (f + 1) (s.drop i) = [(s.drop i).take k] ++ wordsF f (s.drop (i + k + 1)) := by
          simp only [wordsF, if_neg hne, hkk, if_neg hk0, hnx]
        rw [e, ← List.append_assoc]
        exact ho'
    · refine WO_val (v := .bool false) rfl (congrArg (fun b => ORes.val (.bool b)) (decide_eq_false (by omega))) ?_
      dsimp only [Fr.put, lset]
      refine WO_nil (k_seq ?_)
      refine W_cond rfl (fun h => by cases h) (fun h => ?_)
      refine W_exit (k_seq_exit (k_loop_exit ?_))
      refine hQ i out st _ _ _ _ ?_
      have : s.drop i = [] := List.drop_of_length_le (by omega)
      simpa [wordsF, this] using ho

theorem parts_ok (s : List UInt8) (hs : s.length < 4294967296) (st : St) : CallW XD 17 [.str s] st (fun v st' => OutRel st' v (wordsF (s.length + 1) s)) (fun _ _ => False) := by
  refine CallW_fn rfl fn_parts ?_
  generalize hQ : fnK parts (fun v st' => OutRel st' v (wordsF (s.length + 1) s)) (fun _ _ => False) = Q
  unfold parts parts_c EFn.enter
  dsimp only [List.length, List.replicate, List.cons_append, List.nil_append, Nat.reduceAdd, Nat.reduceSub]
  refine W_seq (W_ops ?_)
  refine WO_val (v := .nilslice) rfl rfl ?_
  dsimp only [Fr.put, lset]
  refine WO_nil (k_seq ?_)
  refine W_seq (W_ops ?_)
  refine WO_val (v := .nilslice) rfl rfl ?_
  dsimp only [Fr.put, lset]
  refine WO_nil (k_seq ?_)
  refine W_seq (W_seq (W_ops ?_))
  first | refine WO_val (v := .int _ _) rfl rfl ?_ | refine WO_val (v := .bool _) rfl rfl ?_ | refine WO_val (v := .str _) rfl rfl ?_ | refine WO_val (v := .ptr _ _) rfl rfl ?_ | refine WO_val (v := .iptr _ _) rfl rfl ?_
  dsimp only [Fr.put, lset]
  refine WO_nil (k_seq (W_block ?_))
  refine parts_loop s hs (s.length + 1) 0 [] .nilslice _ st _ (by omega) (by omega) (by simp) (.inl ⟨rfl, rfl⟩) rfl ?_
  intro i' out' st' v6 v7 v8 v9 ho
  refine k_block_exit (k_seq ?_)
  unfold parts_r3
  refine W_seq (W_ops ?_)
  refine WO_val (v := out') rfl rfl ?_
  dsimp only [Fr.put, lset]
  refine WO_val (v := out') rfl rfl ?_
  dsimp only [Fr.put, lset]
  refine WO_nil (k_seq (W_ret ?_))
  rw [← hQ]
  refine fnK_ret rfl rfl ?_
  show OutRel st' out' _
  simpa using ho

theorem ixText_blank : ∀ (l : List UInt8) (i : Nat), ixText l [32] i = if l.count 32 = 0 then -1 else ((wordLen l + i : Nat) : Int)
  | [], i => by simp [ixText]
  | c :: l, i => by
    have e : ixText (c :: l) [32] i = if [32].isPrefixOf (c :: l) then (i : Int) else ixText l [32] (i + 1) := rfl
    rw [e]
    have e2 : [(32 : UInt8)].isPrefixOf (c :: l) = ((32 : UInt8) == c) := by simp [List.isPrefixOf]
    rw [e2]
    by_cases h : c = 32
    · subst h
      simp [wordLen]
    · have h2 : ((32 : UInt8) == c) = false := by simp; exact fun h3 => h h3.symm
      rw [h2, ixText_blank l (i + 1), List.count_cons_of_ne h]
      simp only [Bool.false_eq_true, if_false, wordLen, h]
      split
      · rfl
      · congr 1; omega

theorem count_wordLen : ∀ (l : List UInt8) (k : Nat), l.count 32 = k + 1 → wordLen l < l.length ∧ (l.drop (wordLen l + 1)).count 32 = k
  | [], k, h => by simp at h
  | c :: l, k, h => by
    by_cases hc : c = 32
    · subst hc
      simp only [wordLen, if_true, List.length_cons, List.drop_succ_cons, List.drop_zero]
      rw [List.count_cons_self] at h
      exact ⟨by omega, by omega⟩
    · rw [List.count_cons_of_ne hc] at h
      obtain ⟨h1, h2⟩ := count_wordLen l k h
      simp only [wordLen, hc, if_false, List.length_cons, List.drop_succ_cons]
      exact ⟨by omega, h2⟩

theorem sindex_ok (l : List UInt8) (hl : l.length < 4294967281) (st : St) : CallW XD 59 [.str l, .str [32]] st (fun v st' => v = .int .i64 (ixText l [32] 0) ∧ st' = st) (fun _ _ => False) := by
  refine CallW_fn rfl fn_sindex ?_
  unfold sindex sindex_c EFn.enter
  dsimp only [List.length, List.replicate, List.cons_append, List.nil_append, Nat.reduceAdd, Nat.reduceSub]
  refine W_seq (W_ops ?_)
  first | refine WO_val (v := .int _ _) rfl rfl ?_ | refine WO_val (v := .bool _) rfl rfl ?_ | refine WO_val (v := .str _) rfl rfl ?_ | refine WO_val (v := .ptr _ _) rfl rfl ?_ | refine WO_val (v := .iptr _ _) rfl rfl ?_
  dsimp only [Fr.put, lset]
  refine WO_nil (k_seq ?_)
  refine W_seq (W_ops ?_)
  first | refine WO_val (v := .int _ _) rfl rfl ?_ | refine WO_val (v := .bool _) rfl rfl ?_ | refine WO_val (v := .str _) rfl rfl ?_ | refine WO_val (v := .ptr _ _) rfl rfl ?_ | refine WO_val (v := .iptr _ _) rfl rfl ?_
  dsimp only [Fr.put, lset]
  first | refine WO_val (v := .int _ _) rfl rfl ?_ | refine WO_val (v := .bool _) rfl rfl ?_ | refine WO_val (v := .str _) rfl rfl ?_ | refine WO_val (v := .ptr _ _) rfl rfl ?_ | refine WO_val (v := .iptr _ _) rfl rfl ?_
  dsimp only [Fr.put, lset]
  refine WO_call rfl rfl (CallW.ret (v := .int .i64 (ixText l [32] 0)) (s' := st) (p := pIndex) rfl ?_ ?_)
  · show pIndex [.str l, .str [32]] st = _
    simp only [pIndex, if_pos hl]
  dsimp only [Fr.put, lset]
  first | refine WO_val (v := .int _ _) rfl rfl ?_ | refine WO_val (v := .bool _) rfl rfl ?_ | refine WO_val (v := .str _) rfl rfl ?_ | refine WO_val (v := .ptr _ _) rfl rfl ?_ | refine WO_val (v := .iptr _ _) rfl rfl ?_
  dsimp only [Fr.put, lset]
  refine WO_nil (k_seq (W_ret ?_))
  exact fnK_ret rfl rfl ⟨rfl, rfl⟩

theorem count_ok (l : List UInt8) (_hl : l.length < 4294967281) (st : St) : CallW XD 58 [.str l, .str [32]] st (fun v st' => v = .int .i64 (l.count 32 : Nat) ∧ st' = st) (fun _ _ => False) := by
  refine CallW_fn rfl fn_count ?_
  unfold count count_c EFn.enter
  dsimp only [List.length, List.replicate, List.cons_append, List.nil_append, Nat.reduceAdd, Nat.reduceSub]
  refine W_seq (W_ops ?_)
  first | refine WO_val (v := .int _ _) rfl rfl ?_ | refine WO_val (v := .bool _) rfl rfl ?_ | refine WO_val (v := .str _) rfl rfl ?_ | refine WO_val (v := .ptr _ _) rfl rfl ?_ | refine WO_val (v := .iptr _ _) rfl rfl ?_
  dsimp only [Fr.put, lset]
  refine WO_nil (k_seq ?_)
  refine W_seq (W_seq (W_ops ?_))
  first | refine WO_val (v := .int _ _) rfl rfl ?_ | refine WO_val (v := .bool _) rfl rfl ?_ | refine WO_val (v := .str _) rfl rfl ?_ | refine WO_val (v := .ptr _ _) rfl rfl ?_ | refine WO_val (v := .iptr _ _) rfl rfl ?_
  dsimp only [Fr.put, lset]
  first | refine WO_val (v := .int _ _) rfl rfl ?_ | refine WO_val (v := .bool _) rfl rfl ?_ | refine WO_val (v := .str _) rfl rfl ?_ | refine WO_val (v := .ptr _ _) rfl rfl ?_ | refine WO_val (v := .iptr _ _) rfl rfl ?_
  dsimp only [Fr.put, lset]
  first | refine WO_val (v := .int _ _) rfl rfl ?_ | refine WO_val (v := .bool _) rfl rfl ?_ | refine WO_val (v := .str _) rfl rfl ?_ | refine WO_val (v := .ptr _ _) rfl rfl ?_ | refine WO_val (v := .iptr _ _) rfl rfl ?_
  dsimp only [Fr.put, lset]
  refine WO_nil (k_seq ?_)
  refine W_cond (t := false) rfl (fun h => by cases h) (fun _ => ?_)
  refine W_skip (k_seq (W_seq (W_seq (W_ops ?_))))
  first | refine WO_val (v := .int _ _) rfl rfl ?_ | refine WO_val (v := .bool _) rfl rfl ?_ | refine WO_val (v := .str _) rfl rfl ?_ | refine WO_val (v := .ptr _ _) rfl rfl ?_ | refine WO_val (v := .iptr _ _) rfl rfl ?_
  dsimp only [Fr.put, lset]
  first | refine WO_val (v := .int _ _) rfl rfl ?_ | refine WO_val (v := .bool _) rfl rfl ?_ | refine WO_val (v := .str _) rfl rfl ?_ | refine WO_val (v := .ptr _ _) rfl rfl ?_ | refine WO_val (v := .iptr _ _) rfl rfl ?_
  dsimp only [Fr.put, lset]
  first | refine WO_val (v := .int _ _) rfl rfl ?_ | refine WO_val (v := .bool _) rfl rfl ?_ | refine WO_val (v := .str _) rfl rfl ?_ | refine WO_val (v := .ptr _ _) rfl rfl ?_ | refine WO_val (v := .iptr _ _) rfl rfl ?_
  dsimp only [Fr.put, lset]
  refine WO_nil (k_seq ?_)
  refine W_cond (t := true) rfl (fun _ => ?_) (fun h => by cases h)
  refine W_seq (W_ops ?_)
  first | refine WO_val (v := .int _ _) rfl rfl ?_ | refine WO_val (v := .bool _) rfl rfl ?_ | refine WO_val (v := .str _) rfl rfl ?_ | refine WO_val (v := .ptr _ _) rfl rfl ?_ | refine WO_val (v := .iptr _ _) rfl rfl ?_
  dsimp only [Fr.put, lset]
  first | refine WO_val (v := .int _ _) rfl rfl ?_ | refine WO_val (v := .bool _) rfl rfl ?_ | refine WO_val (v := .str _) rfl rfl ?_ | refine WO_val (v := .ptr _ _) rfl rfl ?_ | refine WO_val (v := .iptr _ _) rfl rfl ?_
  dsimp only [Fr.put, lset]
  refine WO_idxStr (c := 32) rfl rfl rfl (by decide) rfl ?_
  dsimp only [Fr.put, lset]
  refine WO_call rfl rfl (CallW.ret (v := .int .i64 (l.count 32 : Nat)) (s' := st) (p := pCountString) rfl ?_ ?_)
  · show pCountString [.str l, .int .u8 ((32 : UInt8).toNat : Int)] st = _
    have h := cntByte_eq 32 l 0
    rw [Nat.zero_add] at h
    simp only [pCountString]
    rw [if_pos ⟨by decide, by decide⟩]
    congr 2
    exact congrArg (fun n : Nat => (n : Int)) h
  dsimp only [Fr.put, lset]
  first | refine WO_val (v := .int _ _) rfl rfl ?_ | refine WO_val (v := .bool _) rfl rfl ?_ | refine WO_val (v := .str _) rfl rfl ?_ | refine WO_val (v := .ptr _ _) rfl rfl ?_ | refine WO_val (v := .iptr _ _) rfl rfl ?_
  dsimp only [Fr.put, lset]
  refine WO_nil (k_seq (W_ret (k_seq_ret ?_)))
  exact fnK_ret rfl rfl ⟨rfl, rfl⟩

def piecesF : Nat → List UInt8 → List (List UInt8)
  | 0, l => [l]
  | k + 1, l => l.take (wordLen l) :: piecesF k (l.drop (wordLen l + 1))

theorem piecesF_length : ∀ (k : Nat) (l : List UInt8), (piecesF k l).length = k + 1
  | 0, l => rfl
  | k + 1, l => by simp [piecesF, piecesF_length k]

def es (k : Nat) : List AV := List.replicate k (.str [])
def strs (ws : List (List UInt8)) : List AV := ws.map AV.str

theorem lset_es (ws : List (List UInt8)) (k : Nat) (w : List UInt8) : lset (strs ws ++ es (k + 1)) ws.length (.str w) = strs (ws ++ [w]) ++ es k := by
  rw [lset_eq]
  induction ws with
  | nil => rfl
  | cons a ws ih =>
    have e1 : strs (a :: ws) ++ es (k + 1) = .str a :: (strs ws ++ es (k + 1)) := rfl
    have e2 : strs (a :: ws ++ [w]) ++ es k = .str a :: (strs (ws ++ [w]) ++ es k) := rfl
    rw [e1, e2, List.length_cons, List.set_cons_succ, ih]

theorem strs_length (ws : List (List UInt8)) : (strs ws).length = ws.length := by simp [strs]
theorem es_length (k : Nat) : (es k).length = k := by simp [es]

def gF (l : List UInt8) (n r N i : Nat) : Fr := ⟨[.str l, .str [32], .int .i64 0, .int .i64 n, .junk, .junk, .junk, .junk, .junk, .arr r 0 N (some N), .int .i64 i, .junk, .junk, .junk, .junk, .junk, .junk, .junk, .junk, .junk, .junk, .junk, .junk, .junk, .junk, .junk, .junk, .junk, .junk, .junk, .junk, .junk, .junk, .junk, .junk, .junk, .junk, .junk, .junk, .junk, .junk, .junk, .junk, .junk, .junk, .junk, .junk, .junk, .junk, .junk, .junk, .junk, .junk, .junk, .junk, .junk, .junk, .junk, .junk, .junk, .junk, .junk, .junk, .junk, .junk, .junk], [], .off⟩

theorem genSplit_loop (N r : Nat) (hN : N < 4294967296) : ∀ (k i : Nat) (l : List UInt8) (ws : List (List UInt8)) (fr : Fr) (st : St) (Q : EExit → Fr → St → Prop), l.count 32 = k → ws.length = i → i + k + 1 = N → l.length < 4294967281 → fr.kill genSplit_k0 = gF l (N - 1) r N i → st.heap.get r = some (.cells 9 (strs ws ++ es (k + 1))) →
    (∀ (l' : List UInt8) (ws' : List (List UInt8)) (st' : St) (v34 v35 v36 v37 v38 v39 v40 v41 v42 v43 v44 v45 v46 v47 v48 v49 v50 v51 v52 v53 v54 v55 v56 v57 v11 : AV), ws ++ piecesF k l = ws' ++ [l'] → ws'.length + 1 = N → st'.heap.get r = some (.cells 9 (strs ws' ++ es 1)) → (∀ q, q ≠ r → st'.heap.get q = st.heap.get q) → st'.next = st.next →
      Q (.exit 0) ⟨[.str l', .str [32], .int .i64 0, .int .i64 (N - 1 : Nat), .junk, .junk, .junk, .junk, .junk, .arr r 0 N (some N), .int .i64 (N - 1 : Nat), v11, .junk, .junk, .junk, .junk, .junk, .junk, .junk, .junk, .junk, .junk, .junk, .junk, .junk, .junk, .junk, .junk, .junk, .junk, .junk, .junk, .junk, .junk, v34, v35, v36, v37, v38, v39, v40, v41, v42, v43, v44, v45, v46, v47, v48, v49, v50, v51, v52, v53, v54, v55, v56, v57, .junk, .junk, .junk, .junk, .junk, .junk, .junk, .junk], [], .off⟩ st') → WC XD (.loop genSplit_k0 genSplit_b0) fr st Q := by
  intro k
  induction k with
  | zero =>
    intro i l ws fr st Q hc hw hn hl hk hr hQ
    refine W_loop ?_
    rw [hk]
    unfold genSplit_b0 gF
    refine W_seq (W_seq (W_ops ?_))
    first | refine WO_val (v := .int _ _) rfl rfl ?_ | refine WO_val (v := .bool _) rfl rfl ?_ | refine WO_val (v := .str _) rfl rfl ?_ | refine WO_val (v := .ptr _ _) rfl rfl ?_ | refine WO_val (v := .iptr _ _) rfl rfl ?_
    dsimp only [Fr.put, lset]
    first | refine WO_val (v := .int _ _) rfl rfl ?_ | refine WO_val (v := .bool _) rfl rfl ?_ | refine WO_val (v := .str _) rfl rfl ?_ | refine WO_val (v := .ptr _ _) rfl rfl ?_ | refine WO_val (v := .iptr _ _) rfl rfl ?_
    dsimp only [Fr.put, lset]
    refine WO_val (v := .bool false) rfl (congrArg (fun b => ORes.val (.bool b)) (decide_eq_false (by omega))) ?_
    dsimp only [Fr.put, lset]
    refine WO_nil (k_seq ?_)
    refine W_cond rfl (fun h => by cases h) (fun _ => ?_)
    refine W_exit (k_seq_exit (k_loop_exit ?_))
    have e : i = N - 1 := by omega
    subst e
    exact hQ l ws st _ _ _ _ _ _ _ _ _ _ _ _ _ _ _ _ _ _ _ _ _ _ _ _ _ rfl (by omega) hr (fun _ _ => rfl) rfl
  | succ k ih =>
    intro i l ws fr st Q hc hw hn hl hk hr hQ
    obtain ⟨c1, c2⟩ := count_wordLen l k hc
    have hix : ixText l [32] 0 = (wordLen l : Int) := by rw [ixText_blank, if_neg (by omega)]; rfl
    refine W_loop ?_
    rw [hk]
    unfold genSplit_b0 gF
    refine W_seq (W_seq (W_ops ?_))
    first | refine WO_val (v := .int _ _) rfl rfl ?_ | refine WO_val (v := .bool _) rfl rfl ?_ | refine WO_val (v := .str _) rfl rfl ?_ | refine WO_val (v := .ptr _ _) rfl rfl ?_ | refine WO_val (v := .iptr _ _) rfl rfl ?_
    dsimp only [Fr.put, lset]
    first | refine WO_val (v := .int _ _) rfl rfl ?_ | refine WO_val (v := .bool _) rfl rfl ?_ | refine WO_val (v := .str _) rfl rfl ?_ | refine WO_val (v := .ptr _ _) rfl rfl ?_ | refine WO_val (v := .iptr _ _) rfl rfl ?_
    dsimp only [Fr.put, lset]
    refine WO_val (v := .bool true) rfl (congrArg (fun b => ORes.val (.bool b)) (decide_eq_true (by omega))) ?_
    dsimp only [Fr.put, lset]
    refine WO_nil (k_seq ?_)
    refine W_cond rfl (fun _ => ?_) (fun h => by cases h)
    refine W_skip (k_seq (W_block (W_seq (W_ops ?_))))
    first | refine WO_val (v := .int _ _) rfl rfl ?_ | refine WO_val (v := .bool _) rfl rfl ?_ | refine WO_val (v := .str _) rfl rfl ?_ | refine WO_val (v := .ptr _ _) rfl rfl ?_ | refine WO_val (v := .iptr _ _) rfl rfl ?_
    dsimp only [Fr.put, lset]
    first | refine WO_val (v := .int _ _) rfl rfl ?_ | refine WO_val (v := .bool _) rfl rfl ?_ | refine WO_val (v := .str _) rfl rfl ?_ | refine WO_val (v := .ptr _ _) rfl rfl ?_ | refine WO_val (v := .iptr _ _) rfl rfl ?_
    dsimp only [Fr.put, lset]
    refine WO_call rfl rfl ((sindex_ok l hl st).mono (fun v st' hv => ?_) (fun _ _ h => h.elim))
    obtain ⟨rfl, rfl⟩ := hv
    rw [hix]
    dsimp only [Fr.put, lset]
    first | refine WO_val (v := .int _ _) rfl rfl ?_ | refine WO_val (v := .bool _) rfl rfl ?_ | refine WO_val (v := .str _) rfl rfl ?_ | refine WO_val (v := .ptr _ _) rfl rfl ?_ | refine WO_val (v := .iptr _ _) rfl rfl ?_
    dsimp only [Fr.put, lset]
    refine WO_nil (k_seq ?_)
    refine W_seq (W_seq (W_ops ?_))
    first | refine WO_val (v := .int _ _) rfl rfl ?_ | refine WO_val (v := .bool _) rfl rfl ?_ | refine WO_val (v := .str _) rfl rfl ?_ | refine WO_val (v := .ptr _ _) rfl rfl ?_ | refine WO_val (v := .iptr _ _) rfl rfl ?_
    dsimp only [Fr.put, lset]
    refine WO_val (v := .bool false) rfl (congrArg (fun b => ORes.val (.bool b)) (decide_eq_false (by omega))) ?_
    dsimp only [Fr.put, lset]
    refine WO_nil (k_seq ?_)
    refine W_cond rfl (fun h => by cases h) (fun _ => ?_)
    refine W_skip (k_seq (W_seq (W_ops ?_)))
    refine WO_val (v := .arr _ _ _ _) rfl rfl ?_
    dsimp only [Fr.put, lset]
    first | refine WO_val (v := .int _ _) rfl rfl ?_ | refine WO_val (v := .bool _) rfl rfl ?_ | refine WO_val (v := .str _) rfl rfl ?_ | refine WO_val (v := .ptr _ _) rfl rfl ?_ | refine WO_val (v := .iptr _ _) rfl rfl ?_
    dsimp only [Fr.put, lset]
    first | refine WO_val (v := .int _ _) rfl rfl ?_ | refine WO_val (v := .bool _) rfl rfl ?_ | refine WO_val (v := .str _) rfl rfl ?_ | refine WO_val (v := .ptr _ _) rfl rfl ?_ | refine WO_val (v := .iptr _ _) rfl rfl ?_
    dsimp only [Fr.put, lset]
    first | refine WO_val (v := .int _ _) rfl rfl ?_ | refine WO_val (v := .bool _) rfl rfl ?_ | refine WO_val (v := .str _) rfl rfl ?_ | refine WO_val (v := .ptr _ _) rfl rfl ?_ | refine WO_val (v := .iptr _ _) rfl rfl ?_
    dsimp only [Fr.put, lset]
    first | refine WO_val (v := .int _ _) rfl rfl ?_ | refine WO_val (v := .bool _) rfl rfl ?_ | refine WO_val (v := .str _) rfl rfl ?_ | refine WO_val (v := .ptr _ _) rfl rfl ?_ | refine WO_val (v := .iptr _ _) rfl rfl ?_
    dsimp only [Fr.put, lset]
    refine WO_val (v := .int .i64 (wordLen l : Int)) rfl (congrArg (fun z => ORes.val (.int .i64 z)) (by rw [wrap_i64 (by omega) (by omega)]; omega)) ?_
    dsimp only [Fr.put, lset]
    refine WO_slS (r := l.take (wordLen l)) rfl rfl rfl rfl (by omega) (by omega) (by omega) (by simp) ?_
    dsimp only [Fr.put, lset]
    refine WO_idxS_arr rfl rfl rfl (by omega) (by omega) ?_
    dsimp only [Fr.put, lset]
    refine WO_store rfl rfl hr rfl (by simp [strs_length, es_length]; omega) rfl (c' := strs (ws ++ [l.take (wordLen l)]) ++ es (k + 1)) ?_ ?_
    · have e : 0 + ((i : Nat) : Int).toNat * 1 = ws.length := by rw [hw]; simp
      show lset (α := AV) _ (0 + ((i : Nat) : Int).toNat * 1) (AV.str (l.take (wordLen l))) = _
      rw [e]
      exact lset_es ws (k + 1) _
    dsimp only [Fr.put, lset]
    refine WO_nil (k_seq ?_)
    refine W_seq (W_ops ?_)
    first | refine WO_val (v := .int _ _) rfl rfl ?_ | refine WO_val (v := .bool _) rfl rfl ?_ | refine WO_val (v := .str _) rfl rfl ?_ | refine WO_val (v := .ptr _ _) rfl rfl ?_ | refine WO_val (v := .iptr _ _) rfl rfl ?_
    dsimp only [Fr.put, lset]
    first | refine WO_val (v := .int _ _) rfl rfl ?_ | refine WO_val (v := .bool _) rfl rfl ?_ | refine WO_val (v := .str _) rfl rfl ?_ | refine WO_val (v := .ptr _ _) rfl rfl ?_ | refine WO_val (v := .iptr _ _) rfl rfl ?_
    dsimp only [Fr.put, lset]
    first | refine WO_val (v := .int _ _) rfl rfl ?_ | refine WO_val (v := .bool _) rfl rfl ?_ | refine WO_val (v := .str _) rfl rfl ?_ | refine WO_val (v := .ptr _ _) rfl rfl ?_ | refine WO_val (v := .iptr _ _) rfl rfl ?_
    dsimp only [Fr.put, lset]
    first | refine WO_val (v := .int _ _) rfl rfl ?_ | refine WO_val (v := .bool _) rfl rfl ?_ | refine WO_val (v := .str _) rfl rfl ?_ | refine WO_val (v := .ptr _ _) rfl rfl ?_ | refine WO_val (v := .iptr _ _) rfl rfl ?_
    dsimp only [Fr.put, lset]
    refine WO_val (v := .int .i64 ((wordLen l + 1 : Nat) : Int)) rfl (congrArg (fun z => ORes.val (.int .i64 z)) (by show IntKind.i64.wrap ((wordLen l : Int) + 1) = _; rw [wrap_i64 (by omega) (by omega)]; omega)) ?_
    dsimp only [Fr.put, lset]
    refine WO_slS (r := l.drop (wordLen l + 1)) rfl rfl rfl rfl (by omega) (by omega) (by omega) (List.take_of_length_le (l := l.drop (wordLen l + 1)) (by simp; omega)) ?_
    dsimp only [Fr.put, lset]
    first | refine WO_val (v := .int _ _) rfl rfl ?_ | refine WO_val (v := .bool _) rfl rfl ?_ | refine WO_val (v := .str _) rfl rfl ?_ | refine WO_val (v := .ptr _ _) rfl rfl ?_ | refine WO_val (v := .iptr _ _) rfl rfl ?_
    dsimp only [Fr.put, lset]
    refine WO_nil (k_seq (W_ops ?_))
    first | refine WO_val (v := .int _ _) rfl rfl ?_ | refine WO_val (v := .bool _) rfl rfl ?_ | refine WO_val (v := .str _) rfl rfl ?_ | refine WO_val (v := .ptr _ _) rfl rfl ?_ | refine WO_val (v := .iptr _ _) rfl rfl ?_
    dsimp only [Fr.put, lset]
    refine WO_val (v := .int .i64 ((i + 1 : Nat) : Int)) rfl (congrArg (fun z => ORes.val (.int .i64 z)) (by rw [wrap_i64 (by omega) (by omega)]; omega)) ?_
    dsimp only [Fr.put, lset]
    first | refine WO_val (v := .int _ _) rfl rfl ?_ | refine WO_val (v := .bool _) rfl rfl ?_ | refine WO_val (v := .str _) rfl rfl ?_ | refine WO_val (v := .ptr _ _) rfl rfl ?_ | refine WO_val (v := .iptr _ _) rfl rfl ?_
    dsimp only [Fr.put, lset]
    refine WO_nil (k_block 1 (k_loop ?_))
    refine ih (i + 1) (l.drop (wordLen l + 1)) (ws ++ [l.take (wordLen l)]) _ _ Q c2 (by simp; omega) (by omega) (by simp; omega) rfl (by rw [St.get_upd, if_pos rfl]) ?_
    intro l' ws' st' v34 v35 v36 v37 v38 v39 v40 v41 v42 v43 v44 v45 v46 v47 v48 v49 v50 v51 v52 v53 v54 v55 v56 v57 v11 h1 h2 h3 h4 h5
    refine hQ l' ws' st' v34 v35 v36 v37 v38 v39 v40 v41 v42 v43 v44 v45 v46 v47 v48 v49 v50 v51 v52 v53 v54 v55 v56 v57 v11 ?_ h2 h3 (fun q hq => by rw [h4 q hq, St.get_upd, if_neg hq]) h5
    rw [← h1]
    simp [piecesF]

theorem piecesF_last (k : Nat) (l : List UInt8) : ∃ ws' l', piecesF k l = ws' ++ [l'] := by
  induction k generalizing l with
  | zero => exact ⟨[], l, rfl⟩
  | succ k ih => obtain ⟨ws', l', h⟩ := ih (l.drop (wordLen l + 1)); exact ⟨l.take (wordLen l) :: ws', l', by simp [piecesF, h]⟩

/-- A row of texts that is an object of its own. -/
def RowRel (s : St) (av : AV) (N : Nat) (cells : List AV) : Prop := ∃ r, av = .arr r 0 N (some N) ∧ s.heap.get r = some (.cells 9 cells)

theorem count_le (l : List UInt8) : l.count 32 ≤ l.length := List.count_le_length

theorem genSplit_ok (l : List UInt8) (hl : l.length < 4294967281) (st : St) :
    CallW XD 43 [.str l, .str [32], .int .i64 0, .int .i64 (-1)] st (fun v st' => RowRel st' v (l.count 32 + 1) (strs (piecesF (l.count 32) l))) (fun _ _ => False) := by
  have hcl := count_le l
  refine CallW_fn rfl fn_genSplit ?_
  generalize hQ : fnK genSplit (fun v st' => RowRel st' v (l.count 32 + 1) (strs (piecesF (l.count 32) l))) (fun _ _ => False) = Q
  unfold genSplit genSplit_c EFn.enter
  dsimp only [List.length, List.replicate, List.cons_append, List.nil_append, Nat.reduceAdd, Nat.reduceSub]
  refine W_seq (W_ops ?_)
  refine WO_val (v := .nilslice) rfl rfl ?_
  dsimp only [Fr.put, lset]
  refine WO_nil (k_seq ?_)
  refine W_seq (W_seq (W_ops ?_))
  first | refine WO_val (v := .int _ _) rfl rfl ?_ | refine WO_val (v := .bool _) rfl rfl ?_ | refine WO_val (v := .str _) rfl rfl ?_ | refine WO_val (v := .ptr _ _) rfl rfl ?_ | refine WO_val (v := .iptr _ _) rfl rfl ?_
  dsimp only [Fr.put, lset]
  first | refine WO_val (v := .int _ _) rfl rfl ?_ | refine WO_val (v := .bool _) rfl rfl ?_ | refine WO_val (v := .str _) rfl rfl ?_ | refine WO_val (v := .ptr _ _) rfl rfl ?_ | refine WO_val (v := .iptr _ _) rfl rfl ?_
  dsimp only [Fr.put, lset]
  refine WO_nil (k_seq ?_)
  refine W_cond (t := false) rfl (fun h => by cases h) (fun _ => ?_)
  refine W_skip (k_seq (W_seq (W_seq (W_ops ?_))))
  first | refine WO_val (v := .int _ _) rfl rfl ?_ | refine WO_val (v := .bool _) rfl rfl ?_ | refine WO_val (v := .str _) rfl rfl ?_ | refine WO_val (v := .ptr _ _) rfl rfl ?_ | refine WO_val (v := .iptr _ _) rfl rfl ?_
  dsimp only [Fr.put, lset]
  refine WO_strEq (t := false) rfl rfl rfl (by decide) ?_
  dsimp only [Fr.put, lset]
  refine WO_nil (k_seq ?_)
  refine W_cond (t := false) rfl (fun h => by cases h) (fun _ => ?_)
  refine W_skip (k_seq (W_seq (W_seq (W_ops ?_))))
  first | refine WO_val (v := .int _ _) rfl rfl ?_ | refine WO_val (v := .bool _) rfl rfl ?_ | refine WO_val (v := .str _) rfl rfl ?_ | refine WO_val (v := .ptr _ _) rfl rfl ?_ | refine WO_val (v := .iptr _ _) rfl rfl ?_
  dsimp only [Fr.put, lset]
  first | refine WO_val (v := .int _ _) rfl rfl ?_ | refine WO_val (v := .bool _) rfl rfl ?_ | refine WO_val (v := .str _) rfl rfl ?_ | refine WO_val (v := .ptr _ _) rfl rfl ?_ | refine WO_val (v := .iptr _ _) rfl rfl ?_
  dsimp only [Fr.put, lset]
  refine WO_nil (k_seq ?_)
  refine W_cond (t := true) rfl (fun _ => ?_) (fun h => by cases h)
  refine W_ops ?_
  first | refine WO_val (v := .int _ _) rfl rfl ?_ | refine WO_val (v := .bool _) rfl rfl ?_ | refine WO_val (v := .str _) rfl rfl ?_ | refine WO_val (v := .ptr _ _) rfl rfl ?_ | refine WO_val (v := .iptr _ _) rfl rfl ?_
  dsimp only [Fr.put, lset]
  first | refine WO_val (v := .int _ _) rfl rfl ?_ | refine WO_val (v := .bool _) rfl rfl ?_ | refine WO_val (v := .str _) rfl rfl ?_ | refine WO_val (v := .ptr _ _) rfl rfl ?_ | refine WO_val (v := .iptr _ _) rfl rfl ?_
  dsimp only [Fr.put, lset]
  refine WO_call rfl rfl ((count_ok l hl st).mono (fun v st' hv => ?_) (fun _ _ h => h.elim))
  obtain ⟨rfl, rfl⟩ := hv
  dsimp only [Fr.put, lset]
  generalize hk : l.count 32 = k at hcl hQ
  refine WO_val (v := .int .i64 ((k + 1 : Nat) : Int)) rfl (congrArg (fun z => ORes.val (.int .i64 z)) (by rw [wrap_i64 (by omega) (by omega)]; omega)) ?_
  dsimp only [Fr.put, lset]
  first | refine WO_val (v := .int _ _) rfl rfl ?_ | refine WO_val (v := .bool _) rfl rfl ?_ | refine WO_val (v := .str _) rfl rfl ?_ | refine WO_val (v := .ptr _ _) rfl rfl ?_ | refine WO_val (v := .iptr _ _) rfl rfl ?_
  dsimp only [Fr.put, lset]
  refine WO_nil (k_seq ?_)
  refine W_seq (W_ops ?_)
  first | refine WO_val (v := .int _ _) rfl rfl ?_ | refine WO_val (v := .bool _) rfl rfl ?_ | refine WO_val (v := .str _) rfl rfl ?_ | refine WO_val (v := .ptr _ _) rfl rfl ?_ | refine WO_val (v := .iptr _ _) rfl rfl ?_
  dsimp only [Fr.put, lset]
  first | refine WO_val (v := .int _ _) rfl rfl ?_ | refine WO_val (v := .bool _) rfl rfl ?_ | refine WO_val (v := .str _) rfl rfl ?_ | refine WO_val (v := .ptr _ _) rfl rfl ?_ | refine WO_val (v := .iptr _ _) rfl rfl ?_
  dsimp only [Fr.put, lset]
  first | refine WO_val (v := .int _ _) rfl rfl ?_ | refine WO_val (v := .bool _) rfl rfl ?_ | refine WO_val (v := .str _) rfl rfl ?_ | refine WO_val (v := .ptr _ _) rfl rfl ?_ | refine WO_val (v := .iptr _ _) rfl rfl ?_
  dsimp only [Fr.put, lset]
  refine WO_val (v := .int .i64 ((l.length + 1 : Nat) : Int)) rfl (congrArg (fun z => ORes.val (.int .i64 z)) (by rw [wrap_i64 (by omega) (by omega)]; omega)) ?_
  dsimp only [Fr.put, lset]
  refine WO_val (v := .int .i64 ((k + 1 : Nat) : Int)) rfl (congrArg (fun z => ORes.val (.int .i64 z)) (by
    show (if ((l.length + 1 : Nat) : Int) < ((k + 1 : Nat) : Int) then ((l.length + 1 : Nat) : Int) else ((k + 1 : Nat) : Int)) = _
    exact if_neg (by omega))) ?_
  dsimp only [Fr.put, lset]
  first | refine WO_val (v := .int _ _) rfl rfl ?_ | refine WO_val (v := .bool _) rfl rfl ?_ | refine WO_val (v := .str _) rfl rfl ?_ | refine WO_val (v := .ptr _ _) rfl rfl ?_ | refine WO_val (v := .iptr _ _) rfl rfl ?_
  dsimp only [Fr.put, lset]
  refine WO_nil (k_seq ?_)
  refine W_seq (W_ops ?_)
  first | refine WO_val (v := .int _ _) rfl rfl ?_ | refine WO_val (v := .bool _) rfl rfl ?_ | refine WO_val (v := .str _) rfl rfl ?_ | refine WO_val (v := .ptr _ _) rfl rfl ?_ | refine WO_val (v := .iptr _ _) rfl rfl ?_
  dsimp only [Fr.put, lset]
  refine WO_new (ob := .cells 9 (es (k + 1))) (mk := fun r => .arr r 0 (k + 1) (some (k + 1))) rfl ?_ ?_
  · show opV _ _ _ (.mkS 9 1 16 false [.str []] (.t 30) (.t 30)) = _
    simp only [opV, EArg.ev, tget, lget, Option.getD_some]
    rw [if_pos ⟨by omega, by omega, by omega, by omega⟩, if_neg (by omega)]
    have e : (List.replicate ((k + 1 : Nat) : Int).toNat [AV.str []]).flatten = es (k + 1) := by
      simp [es, List.flatten_replicate_singleton]
    rw [e]
    rfl
  dsimp only [Fr.put, lset]
  refine WO_val (v := .arr _ _ _ _) rfl rfl ?_
  dsimp only [Fr.put, lset]
  refine WO_nil (k_seq ?_)
  refine W_seq (W_ops ?_)
  first | refine WO_val (v := .int _ _) rfl rfl ?_ | refine WO_val (v := .bool _) rfl rfl ?_ | refine WO_val (v := .str _) rfl rfl ?_ | refine WO_val (v := .ptr _ _) rfl rfl ?_ | refine WO_val (v := .iptr _ _) rfl rfl ?_
  dsimp only [Fr.put, lset]
  refine WO_val (v := .int .i64 ((k + 1 - 1 : Nat) : Int)) rfl (congrArg (fun z => ORes.val (.int .i64 z)) (by rw [wrap_i64 (by omega) (by omega)]; omega)) ?_
  dsimp only [Fr.put, lset]
  first | refine WO_val (v := .int _ _) rfl rfl ?_ | refine WO_val (v := .bool _) rfl rfl ?_ | refine WO_val (v := .str _) rfl rfl ?_ | refine WO_val (v := .ptr _ _) rfl rfl ?_ | refine WO_val (v := .iptr _ _) rfl rfl ?_
  dsimp only [Fr.put, lset]
  refine WO_nil (k_seq ?_)
  refine W_seq (W_ops ?_)
  first | refine WO_val (v := .int _ _) rfl rfl ?_ | refine WO_val (v := .bool _) rfl rfl ?_ | refine WO_val (v := .str _) rfl rfl ?_ | refine WO_val (v := .ptr _ _) rfl rfl ?_ | refine WO_val (v := .iptr _ _) rfl rfl ?_
  dsimp only [Fr.put, lset]
  refine WO_nil (k_seq (W_seq (W_block ?_)))
  refine genSplit_loop (k + 1) st'.next (by omega) k 0 l [] _ _ _ hk rfl (by omega) hl rfl (by rw [St.get_alloc, if_pos rfl]; rfl) ?_
  intro l' ws' st2 v34 v35 v36 v37 v38 v39 v40 v41 v42 v43 v44 v45 v46 v47 v48 v49 v50 v51 v52 v53 v54 v55 v56 v57 v11 h1 h2 h3 h4 h5
  refine k_block_exit (k_seq ?_)
  unfold genSplit_r1
  refine W_seq (W_ops ?_)
  refine WO_val (v := .arr _ _ _ _) rfl rfl ?_
  dsimp only [Fr.put, lset]
  first | refine WO_val (v := .int _ _) rfl rfl ?_ | refine WO_val (v := .bool _) rfl rfl ?_ | refine WO_val (v := .str _) rfl rfl ?_ | refine WO_val (v := .ptr _ _) rfl rfl ?_ | refine WO_val (v := .iptr _ _) rfl rfl ?_
  dsimp only [Fr.put, lset]
  first | refine WO_val (v := .int _ _) rfl rfl ?_ | refine WO_val (v := .bool _) rfl rfl ?_ | refine WO_val (v := .str _) rfl rfl ?_ | refine WO_val (v := .ptr _ _) rfl rfl ?_ | refine WO_val (v := .iptr _ _) rfl rfl ?_
  dsimp only [Fr.put, lset]
  refine WO_idxS_arr rfl rfl rfl (by omega) (by omega) ?_
  dsimp only [Fr.put, lset]
  refine WO_store rfl rfl h3 rfl (by simp [strs_length, es_length]; omega) rfl (c' := strs (piecesF k l)) ?_ ?_
  · have e : 0 + ((k + 1 - 1 : Nat) : Int).toNat * 1 = ws'.length := by simp; omega
    show lset (α := AV) _ (0 + ((k + 1 - 1 : Nat) : Int).toNat * 1) (AV.str l') = _
    rw [e, lset_es ws' 0 l', ← h1]
    simp [es]
  dsimp only [Fr.put, lset]
  refine WO_nil (k_seq ?_)
  refine W_seq (W_ops ?_)
  refine WO_val (v := .arr _ _ _ _) rfl rfl ?_
  dsimp only [Fr.put, lset]
  first | refine WO_val (v := .int _ _) rfl rfl ?_ | refine WO_val (v := .bool _) rfl rfl ?_ | refine WO_val (v := .str _) rfl rfl ?_ | refine WO_val (v := .ptr _ _) rfl rfl ?_ | refine WO_val (v := .iptr _ _) rfl rfl ?_
  dsimp only [Fr.put, lset]
  refine WO_val (v := .int .i64 ((k + 1 : Nat) : Int)) rfl (congrArg (fun z => ORes.val (.int .i64 z)) (by rw [wrap_i64 (by omega) (by omega)]; omega)) ?_
  dsimp only [Fr.put, lset]
  refine WO_val (v := .arr st'.next 0 (k + 1) (some (k + 1))) rfl ?_ ?_
  · show opV _ _ _ (.slV 1 (.t 62) none (some (.t 64)) none) = _
    simp only [opV, EArg.ev, tget, lget, Option.getD_some, bnd]
    rw [if_pos ⟨by omega, by omega, by omega⟩]
    simp
  dsimp only [Fr.put, lset]
  refine WO_val (v := .arr _ _ _ _) rfl rfl ?_
  dsimp only [Fr.put, lset]
  refine WO_nil (k_seq (W_ret ?_))
  rw [← hQ]
  exact fnK_ret rfl rfl ⟨st'.next, rfl, by rw [St.get_upd, if_pos rfl]⟩

end Go.Proofs.YtnmfnbhgolakkaaGreatDoor

/- Words of a line: what is empty is left out. No condition. -/
namespace Go.Proofs.YtnmfnbhgolakkaaGreatDoor
open Go GoE
set_option maxRecDepth 100000
theorem strs_get {ws : List (List UInt8)} {i : Nat} {w : List UInt8} (h : ws[i]? = some w) : (strs ws)[i]? = some (.str w) := by simp [strs, h]

theorem load_cell {R : Rt} {tmps : List AV} {s : St} {x : EArg} {r off : Nat} {e : TypeId} {c : List AV} {v : AV} (hx : x.ev tmps = .ptr r off) (hr : s.heap.get r = some (.cells e c)) (hv : c[off]? = some v) :
    opV R tmps s (.load 1 false x) = .val v := by
  have hl : off < c.length := (List.getElem?_eq_some_iff.1 hv).1
  have he := (List.getElem?_eq_some_iff.1 hv).2
  have h1 : ltake c off 1 = some [v] := by
    unfold ltake
    rw [if_pos (by omega), List.drop_eq_getElem_cons hl, he]
    rfl
  simp only [opV, hx, loadL, hr, h1]
  rfl

theorem split_ok (l : List UInt8) (hl : l.length < 4294967281) (st : St) :
    CallW XD 26 [.str l, .str [32]] st (fun v st' => RowRel st' v (l.count 32 + 1) (strs (piecesF (l.count 32) l))) (fun _ _ => False) := by
  refine CallW_fn rfl fn_split ?_
  unfold split split_c EFn.enter
  dsimp only [List.length, List.replicate, List.cons_append, List.nil_append, Nat.reduceAdd, Nat.reduceSub]
  refine W_seq (W_ops ?_)
  refine WO_val (v := .nilslice) rfl rfl ?_
  dsimp only [Fr.put, lset]
  refine WO_nil (k_seq ?_)
  refine W_seq (W_ops ?_)
  first | refine WO_val (v := .int _ _) rfl rfl ?_ | refine WO_val (v := .bool _) rfl rfl ?_ | refine WO_val (v := .str _) rfl rfl ?_ | refine WO_val (v := .ptr _ _) rfl rfl ?_ | refine WO_val (v := .iptr _ _) rfl rfl ?_
  dsimp only [Fr.put, lset]
  first | refine WO_val (v := .int _ _) rfl rfl ?_ | refine WO_val (v := .bool _) rfl rfl ?_ | refine WO_val (v := .str _) rfl rfl ?_ | refine WO_val (v := .ptr _ _) rfl rfl ?_ | refine WO_val (v := .iptr _ _) rfl rfl ?_
  dsimp only [Fr.put, lset]
  refine WO_call rfl rfl ((genSplit_ok l hl st).mono (fun v st' hv => ?_) (fun _ _ h => h.elim))
  obtain ⟨r, rfl, hr⟩ := hv
  dsimp only [Fr.put, lset]
  refine WO_val (v := .arr _ _ _ _) rfl rfl ?_
  dsimp only [Fr.put, lset]
  refine WO_nil (k_seq ?_)
  exact W_ret (fnK_ret rfl rfl ⟨r, rfl, hr⟩)

theorem isEmpty_ok (w : List UInt8) (st : St) : CallW XD 27 [.str w] st (fun v st' => v = .bool (decide (w = [])) ∧ st' = st) (fun _ _ => False) := by
  refine CallW_fn rfl fn_isEmpty ?_
  unfold isEmpty isEmpty_c EFn.enter
  dsimp only [List.length, List.replicate, List.cons_append, List.nil_append, Nat.reduceAdd, Nat.reduceSub]
  refine W_seq (W_ops ?_)
  first | refine WO_val (v := .int _ _) rfl rfl ?_ | refine WO_val (v := .bool _) rfl rfl ?_ | refine WO_val (v := .str _) rfl rfl ?_ | refine WO_val (v := .ptr _ _) rfl rfl ?_ | refine WO_val (v := .iptr _ _) rfl rfl ?_
  dsimp only [Fr.put, lset]
  refine WO_nil (k_seq ?_)
  refine W_seq (W_ops ?_)
  first | refine WO_val (v := .int _ _) rfl rfl ?_ | refine WO_val (v := .bool _) rfl rfl ?_ | refine WO_val (v := .str _) rfl rfl ?_ | refine WO_val (v := .ptr _ _) rfl rfl ?_ | refine WO_val (v := .iptr _ _) rfl rfl ?_
  dsimp only [Fr.put, lset]
  refine WO_strEq (t := decide (w = [])) rfl rfl rfl rfl ?_
  dsimp only [Fr.put, lset]
  first | refine WO_val (v := .int _ _) rfl rfl ?_ | refine WO_val (v := .bool _) rfl rfl ?_ | refine WO_val (v := .str _) rfl rfl ?_ | refine WO_val (v := .ptr _ _) rfl rfl ?_ | refine WO_val (v := .iptr _ _) rfl rfl ?_
  dsimp only [Fr.put, lset]
  refine WO_nil (k_seq ?_)
  exact W_ret (fnK_ret rfl rfl ⟨rfl, rfl⟩)

/-- The place of the first empty text. -/
def ixE : List (List UInt8) → Nat → Int
  | [], _ => -1
  | w :: l, i => if w = [] then i else ixE l (i + 1)

def ixG (n r i : Nat) : Fr := ⟨[.arr r 0 n (some n), .func (.func 27) [] [], .junk, .junk, .junk, .junk, .junk, .int .i64 n, .int .i64 i, .junk, .junk, .junk, .junk, .junk, .junk, .junk, .junk, .junk, .junk], [], .off⟩

theorem ixFunc_loop (all : List (List UInt8)) (n r : Nat) (hn : n < 4294967296) (hall : all.length = n) (st : St) (hr : st.heap.get r = some (.cells 9 (strs all))) :
    ∀ (rest : List (List UInt8)) (i : Nat) (fr : Fr) (Q : EExit → Fr → St → Prop), all.drop i = rest → i ≤ n → fr.kill ixFunc_k0 = ixG n r i →
    (ixE rest i = -1 → ∀ v9 : AV, Q (.exit 0) ⟨[.arr r 0 n (some n), .func (.func 27) [] [], .junk, .junk, .junk, .junk, .junk, .int .i64 n, .int .i64 n, v9, .junk, .junk, .junk, .junk, .junk, .junk, .junk, .junk, .junk], [], .off⟩ st) →
    (∀ v5 v8 v9 v10 v11 v12 v13 v14 v15 v16 v17 : AV, Q .ret ⟨[.arr r 0 n (some n), .func (.func 27) [] [], .junk, .junk, .int .i64 (ixE rest i), v5, .junk, .int .i64 n, v8, v9, v10, v11, v12, v13, v14, v15, v16, v17, .junk], [], .off⟩ st) →
    WC XD (.loop ixFunc_k0 ixFunc_b0) fr st Q := by
  intro rest
  induction rest with
  | nil =>
    intro i fr Q hd hi hk hQ _
    have hin : n ≤ i := by rw [← hall]; exact List.drop_eq_nil_iff.1 hd
    have e : i = n := by omega
    subst e
    refine W_loop ?_
    rw [hk]
    unfold ixFunc_b0 ixG
    refine W_seq (W_ops ?_)
    refine WO_val (v := .bool false) rfl (congrArg (fun b => ORes.val (.bool b)) (decide_eq_false (by omega))) ?_
    dsimp only [Fr.put, lset]
    refine WO_nil (k_seq ?_)
    refine W_seq (W_cond rfl (fun h => by cases h) (fun _ => ?_))
    exact W_exit (k_seq_exit (k_loop_exit (hQ rfl _)))
  | cons w rest ih =>
    intro i fr Q hd hi hk hQ hR
    have hin : i < n := by
      rcases Nat.lt_or_ge i n with h | h
      · exact h
      · rw [List.drop_of_length_le (by omega)] at hd; cases hd
    rw [List.drop_eq_getElem_cons (by omega)] at hd
    injection hd with hd1 hd2
    have hget : all[i]? = some w := by rw [← hd1]; exact List.getElem?_eq_getElem (by omega)
    refine W_loop ?_
    rw [hk]
    unfold ixFunc_b0 ixG
    refine W_seq (W_ops ?_)
    refine WO_val (v := .bool true) rfl (congrArg (fun b => ORes.val (.bool b)) (decide_eq_true (by omega))) ?_
    dsimp only [Fr.put, lset]
    refine WO_nil (k_seq ?_)
    refine W_seq (W_cond rfl (fun _ => ?_) (fun h => by cases h))
    refine W_skip (k_seq (W_seq (W_block (W_seq (W_ops ?_)))))
    first | refine WO_val (v := .int _ _) rfl rfl ?_ | refine WO_val (v := .bool _) rfl rfl ?_ | refine WO_val (v := .str _) rfl rfl ?_ | refine WO_val (v := .ptr _ _) rfl rfl ?_ | refine WO_val (v := .iptr _ _) rfl rfl ?_
    dsimp only [Fr.put, lset]
    first | refine WO_val (v := .int _ _) rfl rfl ?_ | refine WO_val (v := .bool _) rfl rfl ?_ | refine WO_val (v := .str _) rfl rfl ?_ | refine WO_val (v := .ptr _ _) rfl rfl ?_ | refine WO_val (v := .iptr _ _) rfl rfl ?_
    dsimp only [Fr.put, lset]
    refine WO_nil (k_seq ?_)
    refine W_seq (W_ops ?_)
    refine WO_val (v := .func _ _ _) rfl rfl ?_
    dsimp only [Fr.put, lset]
    refine WO_val (v := .arr _ _ _ _) rfl rfl ?_
    dsimp only [Fr.put, lset]
    first | refine WO_val (v := .int _ _) rfl rfl ?_ | refine WO_val (v := .bool _) rfl rfl ?_ | refine WO_val (v := .str _) rfl rfl ?_ | refine WO_val (v := .ptr _ _) rfl rfl ?_ | refine WO_val (v := .iptr _ _) rfl rfl ?_
    dsimp only [Fr.put, lset]
    refine WO_idxS_arr rfl rfl rfl (by omega) (by omega) ?_
    dsimp only [Fr.put, lset]
    refine WO_val (v := .str w) rfl (load_cell (r := r) (off := i) (by show AV.ptr r (0 + ((i : Nat) : Int).toNat * 1) = _; congr 1; simp) hr (strs_get hget)) ?_
    dsimp only [Fr.put, lset]
    refine WO_call rfl rfl ((isEmpty_ok w st).mono (fun v st' hv => ?_) (fun _ _ h => h.elim))
    obtain ⟨rfl, rfl⟩ := hv
    dsimp only [Fr.put, lset]
    refine WO_nil (k_seq ?_)
    by_cases hw : w = []
    · rw [decide_eq_true hw]
      refine W_cond rfl (fun _ => ?_) (fun h => by cases h)
      refine W_seq (W_ops ?_)
      first | refine WO_val (v := .int _ _) rfl rfl ?_ | refine WO_val (v := .bool _) rfl rfl ?_ | refine WO_val (v := .str _) rfl rfl ?_ | refine WO_val (v := .ptr _ _) rfl rfl ?_ | refine WO_val (v := .iptr _ _) rfl rfl ?_
      dsimp only [Fr.put, lset]
      first | refine WO_val (v := .int _ _) rfl rfl ?_ | refine WO_val (v := .bool _) rfl rfl ?_ | refine WO_val (v := .str _) rfl rfl ?_ | refine WO_val (v := .ptr _ _) rfl rfl ?_ | refine WO_val (v := .iptr _ _) rfl rfl ?_
      dsimp only [Fr.put, lset]
      refine WO_nil (k_seq (W_ret (k_block_ret (k_seq_ret (k_loop_ret ?_)))))
      have e : ixE (w :: rest) i = (i : Int) := by simp [ixE, hw]
      rw [e] at hR
      exact hR _ _ _ _ _ _ _ _ _ _ _
    · rw [decide_eq_false hw]
      refine W_cond rfl (fun h => by cases h) (fun _ => ?_)
      refine W_skip (k_block 1 (k_seq (W_ops ?_)))
      refine WO_val (v := .int .i64 ((i + 1 : Nat) : Int)) rfl (congrArg (fun z => ORes.val (.int .i64 z)) (by rw [wrap_i64 (by omega) (by omega)]; omega)) ?_
      dsimp only [Fr.put, lset]
      first | refine WO_val (v := .int _ _) rfl rfl ?_ | refine WO_val (v := .bool _) rfl rfl ?_ | refine WO_val (v := .str _) rfl rfl ?_ | refine WO_val (v := .ptr _ _) rfl rfl ?_ | refine WO_val (v := .iptr _ _) rfl rfl ?_
      dsimp only [Fr.put, lset]
      refine WO_nil (k_loop ?_)
      have e : ixE (w :: rest) i = ixE rest (i + 1) := by simp [ixE, hw]
      rw [e] at hQ hR
      exact ih (i + 1) _ Q hd2 (by omega) rfl hQ hR

theorem ixFunc_ok (all : List (List UInt8)) (n r : Nat) (hn : n < 4294967296) (hall : all.length = n) (st : St) (hr : st.heap.get r = some (.cells 9 (strs all))) :
    CallW XD 42 [.arr r 0 n (some n), .func (.func 27) [] []] st (fun v st' => v = .int .i64 (ixE all 0) ∧ st' = st) (fun _ _ => False) := by
  refine CallW_fn rfl fn_ixFunc ?_
  unfold ixFunc ixFunc_c EFn.enter
  dsimp only [List.length, List.replicate, List.cons_append, List.nil_append, Nat.reduceAdd, Nat.reduceSub]
  refine W_seq (W_ops ?_)
  first | refine WO_val (v := .int _ _) rfl rfl ?_ | refine WO_val (v := .bool _) rfl rfl ?_ | refine WO_val (v := .str _) rfl rfl ?_ | refine WO_val (v := .ptr _ _) rfl rfl ?_ | refine WO_val (v := .iptr _ _) rfl rfl ?_
  dsimp only [Fr.put, lset]
  refine WO_nil (k_seq ?_)
  refine W_seq (W_seq (W_ops ?_))
  refine WO_val (v := .arr _ _ _ _) rfl rfl ?_
  dsimp only [Fr.put, lset]
  first | refine WO_val (v := .int _ _) rfl rfl ?_ | refine WO_val (v := .bool _) rfl rfl ?_ | refine WO_val (v := .str _) rfl rfl ?_ | refine WO_val (v := .ptr _ _) rfl rfl ?_ | refine WO_val (v := .iptr _ _) rfl rfl ?_
  dsimp only [Fr.put, lset]
  first | refine WO_val (v := .int _ _) rfl rfl ?_ | refine WO_val (v := .bool _) rfl rfl ?_ | refine WO_val (v := .str _) rfl rfl ?_ | refine WO_val (v := .ptr _ _) rfl rfl ?_ | refine WO_val (v := .iptr _ _) rfl rfl ?_
  dsimp only [Fr.put, lset]
  refine WO_nil (k_seq (W_block ?_))
  refine ixFunc_loop all n r hn hall st hr all 0 _ _ rfl (by omega) rfl ?_ ?_
  · intro hx v9
    refine k_block_exit (k_seq ?_)
    unfold ixFunc_r1
    refine W_seq (W_ops ?_)
    first | refine WO_val (v := .int _ _) rfl rfl ?_ | refine WO_val (v := .bool _) rfl rfl ?_ | refine WO_val (v := .str _) rfl rfl ?_ | refine WO_val (v := .ptr _ _) rfl rfl ?_ | refine WO_val (v := .iptr _ _) rfl rfl ?_
    dsimp only [Fr.put, lset]
    refine WO_nil (k_seq ?_)
    exact W_ret (fnK_ret rfl rfl ⟨by rw [hx]; rfl, rfl⟩)
  · intro v5 v8 v9 v10 v11 v12 v13 v14 v15 v16 v17
    exact k_block_ret (k_seq_ret (fnK_ret rfl rfl ⟨rfl, rfl⟩))


def ne (ws : List (List UInt8)) : List (List UInt8) := ws.filter (fun x => decide (x ≠ []))

theorem ne_cons {w : List UInt8} {l : List (List UInt8)} (h : w ≠ []) : ne (w :: l) = w :: ne l := by
  unfold ne
  exact List.filter_cons_of_pos (by simp [h])
theorem ne_nil {l : List (List UInt8)} : ne ([] :: l) = ne l := by
  unfold ne
  exact List.filter_cons_of_neg (by simp)

theorem ixE_spec : ∀ (l : List (List UInt8)) (i : Nat), (ixE l i = -1 ∧ ne l = l) ∨ ∃ k, ixE l i = ((i + k : Nat) : Int) ∧ k < l.length ∧ ne l = l.take k ++ ne (l.drop (k + 1))
  | [], i => .inl ⟨rfl, rfl⟩
  | w :: l, i => by
    by_cases hw : w = []
    · exact .inr ⟨0, by simp [ixE, hw], by simp, by simp [ne, hw]⟩
    · rcases ixE_spec l (i + 1) with ⟨h1, h2⟩ | ⟨k, h1, h2, h3⟩
      · exact .inl ⟨by simp [ixE, hw, h1], by rw [ne_cons hw, h2]⟩
      · refine .inr ⟨k + 1, by simp only [ixE, hw, if_false, h1]; congr 1; omega, by simp; omega, ?_⟩
        rw [ne_cons hw, h3]
        rfl

theorem slV_arr {R : Rt} {tmps : List AV} {s : St} {x : EArg} {lo hi : Option EArg} {r off n : Nat} {co : Option Nat} {i j : Int} (hx : x.ev tmps = .arr r off n co) (hl : bnd lo tmps 0 = some i) (hh : bnd hi tmps n = some j)
    (h1 : 0 ≤ i) (h2 : i ≤ j) (h3 : j ≤ n) : opV R tmps s (.slV 1 x lo hi none) = .val (.arr r (off + i.toNat * 1) (j - i).toNat (co.map (· - i.toNat))) := by
  simp only [opV, hx, hl, hh]
  rw [if_pos ⟨h1, h2, h3⟩]

def dG (n r w j : Nat) : Fr := ⟨[.arr r 0 n (some n), .func (.func 27) [] [], .junk, .junk, .junk, .int .i64 w, .int .i64 j, .junk, .junk, .junk, .junk, .junk, .junk, .junk, .junk, .junk, .junk, .junk, .junk, .junk, .junk, .junk, .junk, .junk, .junk, .junk, .junk, .junk, .junk, .junk, .junk, .junk, .junk, .junk, .junk, .junk, .junk, .junk, .junk, .junk, .junk, .junk], [], .off⟩

theorem delFunc_loop (n r : Nat) (hn : n < 4294967296) : ∀ (rest : List (List UInt8)) (j : Nat) (cur kept : List (List UInt8)) (fr : Fr) (st : St) (Q : EExit → Fr → St → Prop),
    cur.drop j = rest → cur.length = n → j ≤ n → kept.length ≤ j → cur.take kept.length = kept → st.heap.get r = some (.cells 9 (strs cur)) → fr.kill delFunc_k0 = dG n r kept.length j →
    (∀ (cur' kept' : List (List UInt8)) (st' : St) (v16 v17 v18 v19 : AV), kept' = kept ++ ne rest → cur'.length = n → kept'.length ≤ n → cur'.take kept'.length = kept' → st'.heap.get r = some (.cells 9 (strs cur')) →
      Q (.exit 0) ⟨[.arr r 0 n (some n), .func (.func 27) [] [], .junk, .junk, .junk, .int .i64 kept'.length, .int .i64 n, .junk, .junk, .junk, .junk, .junk, .junk, .junk, .junk, .junk, v16, v17, v18, v19, .junk, .junk, .junk, .junk, .junk, .junk, .junk, .junk, .junk, .junk, .junk, .junk, .junk, .junk, .junk, .junk, .junk, .junk, .junk, .junk, .junk, .junk], [], .off⟩ st') →
    WC XD (.loop delFunc_k0 delFunc_b0) fr st Q := by
  intro rest
  induction rest with
  | nil =>
    intro j cur kept fr st Q hd hc hj hkj ht hr hk hQ
    have hin : n ≤ j := by rw [← hc]; exact List.drop_eq_nil_iff.1 hd
    have e : j = n := by omega
    subst e
    refine W_loop ?_
    rw [hk]
    unfold delFunc_b0 dG
    refine W_seq (W_seq (W_ops ?_))
    first | refine WO_val (v := .int _ _) rfl rfl ?_ | refine WO_val (v := .bool _) rfl rfl ?_ | refine WO_val (v := .str _) rfl rfl ?_ | refine WO_val (v := .ptr _ _) rfl rfl ?_ | refine WO_val (v := .iptr _ _) rfl rfl ?_
    dsimp only [Fr.put, lset]
    refine WO_val (v := .arr _ _ _ _) rfl rfl ?_
    dsimp only [Fr.put, lset]
    first | refine WO_val (v := .int _ _) rfl rfl ?_ | refine WO_val (v := .bool _) rfl rfl ?_ | refine WO_val (v := .str _) rfl rfl ?_ | refine WO_val (v := .ptr _ _) rfl rfl ?_ | refine WO_val (v := .iptr _ _) rfl rfl ?_
    dsimp only [Fr.put, lset]
    refine WO_val (v := .bool false) rfl (congrArg (fun b => ORes.val (.bool b)) (decide_eq_false (by omega))) ?_
    dsimp only [Fr.put, lset]
    refine WO_nil (k_seq ?_)
    refine W_cond rfl (fun h => by cases h) (fun _ => ?_)
    exact W_exit (k_seq_exit (k_loop_exit (hQ cur kept st _ _ _ _ (by simp [ne]) hc hkj ht hr)))
  | cons v rest ih =>
    intro j cur kept fr st Q hd hc hj hkj ht hr hk hQ
    have hin : j < n := by
      rcases Nat.lt_or_ge j n with h | h
      · exact h
      · rw [List.drop_of_length_le (by omega)] at hd; cases hd
    rw [List.drop_eq_getElem_cons (by omega)] at hd
    injection hd with hd1 hd2
    have hget : cur[j]? = some v := by rw [← hd1]; exact List.getElem?_eq_getElem (by omega)
    refine W_loop ?_
    rw [hk]
    unfold delFunc_b0 dG
    refine W_seq (W_seq (W_ops ?_))
    first | refine WO_val (v := .int _ _) rfl rfl ?_ | refine WO_val (v := .bool _) rfl rfl ?_ | refine WO_val (v := .str _) rfl rfl ?_ | refine WO_val (v := .ptr _ _) rfl rfl ?_ | refine WO_val (v := .iptr _ _) rfl rfl ?_
    dsimp only [Fr.put, lset]
    refine WO_val (v := .arr _ _ _ _) rfl rfl ?_
    dsimp only [Fr.put, lset]
    first | refine WO_val (v := .int _ _) rfl rfl ?_ | refine WO_val (v := .bool _) rfl rfl ?_ | refine WO_val (v := .str _) rfl rfl ?_ | refine WO_val (v := .ptr _ _) rfl rfl ?_ | refine WO_val (v := .iptr _ _) rfl rfl ?_
    dsimp only [Fr.put, lset]
    refine WO_val (v := .bool true) rfl (congrArg (fun b => ORes.val (.bool b)) (decide_eq_true (by omega))) ?_
    dsimp only [Fr.put, lset]
    refine WO_nil (k_seq ?_)
    refine W_cond rfl (fun _ => ?_) (fun h => by cases h)
    refine W_skip (k_seq (W_seq (W_block (W_seq (W_ops ?_)))))
    refine WO_val (v := .arr _ _ _ _) rfl rfl ?_
    dsimp only [Fr.put, lset]
    first | refine WO_val (v := .int _ _) rfl rfl ?_ | refine WO_val (v := .bool _) rfl rfl ?_ | refine WO_val (v := .str _) rfl rfl ?_ | refine WO_val (v := .ptr _ _) rfl rfl ?_ | refine WO_val (v := .iptr _ _) rfl rfl ?_
    dsimp only [Fr.put, lset]
    refine WO_idxS_arr rfl rfl rfl (by omega) (by omega) ?_
    dsimp only [Fr.put, lset]
    refine WO_val (v := .str v) rfl (load_cell (r := r) (off := j) (by show AV.ptr r (0 + ((j : Nat) : Int).toNat * 1) = _; congr 1; simp) hr (strs_get hget)) ?_
    dsimp only [Fr.put, lset]
    first | refine WO_val (v := .int _ _) rfl rfl ?_ | refine WO_val (v := .bool _) rfl rfl ?_ | refine WO_val (v := .str _) rfl rfl ?_ | refine WO_val (v := .ptr _ _) rfl rfl ?_ | refine WO_val (v := .iptr _ _) rfl rfl ?_
    dsimp only [Fr.put, lset]
    refine WO_nil (k_seq ?_)
    refine W_seq (W_ops ?_)
    refine WO_val (v := .func _ _ _) rfl rfl ?_
    dsimp only [Fr.put, lset]
    first | refine WO_val (v := .int _ _) rfl rfl ?_ | refine WO_val (v := .bool _) rfl rfl ?_ | refine WO_val (v := .str _) rfl rfl ?_ | refine WO_val (v := .ptr _ _) rfl rfl ?_ | refine WO_val (v := .iptr _ _) rfl rfl ?_
    dsimp only [Fr.put, lset]
    refine WO_call rfl rfl ((isEmpty_ok v st).mono (fun u st' hv => ?_) (fun _ _ h => h.elim))
    obtain ⟨rfl, rfl⟩ := hv
    dsimp only [Fr.put, lset]
    by_cases hw : v = []
    · rw [decide_eq_true hw]
      refine WO_val (v := .bool false) rfl rfl ?_
      dsimp only [Fr.put, lset]
      refine WO_nil (k_seq ?_)
      refine W_cond rfl (fun h => by cases h) (fun _ => ?_)
      refine W_skip (k_block 1 (k_seq (W_ops ?_)))
      first | refine WO_val (v := .int _ _) rfl rfl ?_ | refine WO_val (v := .bool _) rfl rfl ?_ | refine WO_val (v := .str _) rfl rfl ?_ | refine WO_val (v := .ptr _ _) rfl rfl ?_ | refine WO_val (v := .iptr _ _) rfl rfl ?_
      dsimp only [Fr.put, lset]
      refine WO_val (v := .int .i64 ((j + 1 : Nat) : Int)) rfl (congrArg (fun z => ORes.val (.int .i64 z)) (by rw [wrap_i64 (by omega) (by omega)]; omega)) ?_
      dsimp only [Fr.put, lset]
      first | refine WO_val (v := .int _ _) rfl rfl ?_ | refine WO_val (v := .bool _) rfl rfl ?_ | refine WO_val (v := .str _) rfl rfl ?_ | refine WO_val (v := .ptr _ _) rfl rfl ?_ | refine WO_val (v := .iptr _ _) rfl rfl ?_
      dsimp only [Fr.put, lset]
      refine WO_nil (k_loop ?_)
      refine ih (j + 1) cur kept _ st' Q hd2 hc (by omega) (by omega) ht hr rfl ?_
      intro cur' kept' st2 v16 v17 v18 v19 h1 h2 h3 h4 h5
      exact hQ cur' kept' st2 v16 v17 v18 v19 (by rw [h1]; simp [ne, hw]) h2 h3 h4 h5
    · rw [decide_eq_false hw]
      refine WO_val (v := .bool true) rfl rfl ?_
      dsimp only [Fr.put, lset]
      refine WO_nil (k_seq ?_)
      refine W_cond rfl (fun _ => ?_) (fun h => by cases h)
      refine W_seq (W_ops ?_)
      refine WO_val (v := .arr _ _ _ _) rfl rfl ?_
      dsimp only [Fr.put, lset]
      first | refine WO_val (v := .int _ _) rfl rfl ?_ | refine WO_val (v := .bool _) rfl rfl ?_ | refine WO_val (v := .str _) rfl rfl ?_ | refine WO_val (v := .ptr _ _) rfl rfl ?_ | refine WO_val (v := .iptr _ _) rfl rfl ?_
      dsimp only [Fr.put, lset]
      first | refine WO_val (v := .int _ _) rfl rfl ?_ | refine WO_val (v := .bool _) rfl rfl ?_ | refine WO_val (v := .str _) rfl rfl ?_ | refine WO_val (v := .ptr _ _) rfl rfl ?_ | refine WO_val (v := .iptr _ _) rfl rfl ?_
      dsimp only [Fr.put, lset]
      refine WO_idxS_arr rfl rfl rfl (by omega) (by omega) ?_
      dsimp only [Fr.put, lset]
      refine WO_store rfl rfl hr rfl (by simp [strs_length]; omega) rfl (c' := strs (cur.set kept.length v)) ?_ ?_
      · have e : 0 + ((kept.length : Nat) : Int).toNat * 1 = kept.length := by simp
        show lset (α := AV) _ (0 + ((kept.length : Nat) : Int).toNat * 1) (AV.str v) = _
        rw [e, lset_eq]
        simp [strs, List.map_set]
      dsimp only [Fr.put, lset]
      refine WO_nil (k_seq (W_ops ?_))
      first | refine WO_val (v := .int _ _) rfl rfl ?_ | refine WO_val (v := .bool _) rfl rfl ?_ | refine WO_val (v := .str _) rfl rfl ?_ | refine WO_val (v := .ptr _ _) rfl rfl ?_ | refine WO_val (v := .iptr _ _) rfl rfl ?_
      dsimp only [Fr.put, lset]
      refine WO_val (v := .int .i64 ((kept.length + 1 : Nat) : Int)) rfl (congrArg (fun z => ORes.val (.int .i64 z)) (by rw [wrap_i64 (by omega) (by omega)]; omega)) ?_
      dsimp only [Fr.put, lset]
      first | refine WO_val (v := .int _ _) rfl rfl ?_ | refine WO_val (v := .bool _) rfl rfl ?_ | refine WO_val (v := .str _) rfl rfl ?_ | refine WO_val (v := .ptr _ _) rfl rfl ?_ | refine WO_val (v := .iptr _ _) rfl rfl ?_
      dsimp only [Fr.put, lset]
      refine WO_nil (k_block 1 (k_seq (W_ops ?_)))
      first | refine WO_val (v := .int _ _) rfl rfl ?_ | refine WO_val (v := .bool _) rfl rfl ?_ | refine WO_val (v := .str _) rfl rfl ?_ | refine WO_val (v := .ptr _ _) rfl rfl ?_ | refine WO_val (v := .iptr _ _) rfl rfl ?_
      dsimp only [Fr.put, lset]
      refine WO_val (v := .int .i64 ((j + 1 : Nat) : Int)) rfl (congrArg (fun z => ORes.val (.int .i64 z)) (by rw [wrap_i64 (by omega) (by omega)]; omega)) ?_
      dsimp only [Fr.put, lset]
      first | refine WO_val (v := .int _ _) rfl rfl ?_ | refine WO_val (v := .bool _) rfl rfl ?_ | refine WO_val (v := .str _) rfl rfl ?_ | refine WO_val (v := .ptr _ _) rfl rfl ?_ | refine WO_val (v := .iptr _ _) rfl rfl ?_
      dsimp only [Fr.put, lset]
      refine WO_nil (k_loop ?_)
      refine ih (j + 1) (cur.set kept.length v) (kept ++ [v]) _ _ Q ?_ (by simp [hc]) (by omega) (by simp; omega) ?_ (by rw [St.get_upd, if_pos rfl]) ?_ ?_
      · rw [List.drop_set_of_lt (by omega)]; exact hd2
      · simp only [List.length_append, List.length_cons, List.length_nil]
        rw [List.take_add_one, List.take_set_of_le (by omega), ht, List.getElem?_set_self (by omega)]
        rfl
      · have e : (kept ++ [v]).length = kept.length + 1 := by simp
        rw [e]
        rfl
      · intro cur' kept' st2 v16 v17 v18 v19 h1 h2 h3 h4 h5
        exact hQ cur' kept' st2 v16 v17 v18 v19 (by rw [h1]; simp [ne, hw]) h2 h3 h4 h5


theorem ne_length_le (l : List (List UInt8)) : (ne l).length ≤ l.length := List.length_filter_le _ _

/-- A row that begins with these texts. -/
def Begins (s : St) (av : AV) (ws : List (List UInt8)) : Prop := ∃ r c co, av = .arr r 0 ws.length co ∧ s.heap.get r = some (.cells 9 c) ∧ c.take ws.length = strs ws

theorem delFunc_ok (all : List (List UInt8)) (n r : Nat) (hn : n < 4294967296) (hall : all.length = n) (st : St) (hr : st.heap.get r = some (.cells 9 (strs all))) :
    CallW XD 25 [.arr r 0 n (some n), .func (.func 27) [] []] st (fun v st' => Begins st' v (ne all)) (fun _ _ => False) := by
  refine CallW_fn rfl fn_delFunc ?_
  generalize hQ : fnK delFunc (fun v st' => Begins st' v (ne all)) (fun _ _ => False) = Q
  unfold delFunc delFunc_c EFn.enter
  dsimp only [List.length, List.replicate, List.cons_append, List.nil_append, Nat.reduceAdd, Nat.reduceSub]
  refine W_seq (W_ops ?_)
  refine WO_val (v := .nilslice) rfl rfl ?_
  dsimp only [Fr.put, lset]
  refine WO_nil (k_seq ?_)
  refine W_seq (W_ops ?_)
  refine WO_val (v := .arr _ _ _ _) rfl rfl ?_
  dsimp only [Fr.put, lset]
  refine WO_val (v := .func _ _ _) rfl rfl ?_
  dsimp only [Fr.put, lset]
  refine WO_call rfl rfl ((ixFunc_ok all n r hn hall st hr).mono (fun v st' hv => ?_) (fun _ _ h => h.elim))
  obtain ⟨rfl, rfl⟩ := hv
  dsimp only [Fr.put, lset]
  generalize hix : ixE all 0 = ix
  first | refine WO_val (v := .int _ _) rfl rfl ?_ | refine WO_val (v := .bool _) rfl rfl ?_ | refine WO_val (v := .str _) rfl rfl ?_ | refine WO_val (v := .ptr _ _) rfl rfl ?_ | refine WO_val (v := .iptr _ _) rfl rfl ?_
  dsimp only [Fr.put, lset]
  refine WO_nil (k_seq ?_)
  rcases ixE_spec all 0 with ⟨h1, h2⟩ | ⟨k, h1, h2, h3⟩
  · rw [hix] at h1
    subst h1
    refine W_seq (W_seq (W_ops ?_))
    first | refine WO_val (v := .int _ _) rfl rfl ?_ | refine WO_val (v := .bool _) rfl rfl ?_ | refine WO_val (v := .str _) rfl rfl ?_ | refine WO_val (v := .ptr _ _) rfl rfl ?_ | refine WO_val (v := .iptr _ _) rfl rfl ?_
    dsimp only [Fr.put, lset]
    refine WO_val (v := .bool true) rfl rfl ?_
    dsimp only [Fr.put, lset]
    refine WO_nil (k_seq ?_)
    refine W_cond rfl (fun _ => ?_) (fun h => by cases h)
    refine W_seq (W_ops ?_)
    refine WO_val (v := .arr _ _ _ _) rfl rfl ?_
    dsimp only [Fr.put, lset]
    refine WO_val (v := .arr _ _ _ _) rfl rfl ?_
    dsimp only [Fr.put, lset]
    refine WO_nil (k_seq (W_ret (k_seq_ret ?_)))
    rw [← hQ]
    refine fnK_ret rfl rfl ⟨r, strs all, some n, ?_, hr, ?_⟩
    · rw [h2, hall]; rfl
    · rw [h2]; exact List.take_of_length_le (by rw [strs_length]; omega)
  · rw [hix, Nat.zero_add] at h1
    subst h1
    refine W_seq (W_seq (W_ops ?_))
    first | refine WO_val (v := .int _ _) rfl rfl ?_ | refine WO_val (v := .bool _) rfl rfl ?_ | refine WO_val (v := .str _) rfl rfl ?_ | refine WO_val (v := .ptr _ _) rfl rfl ?_ | refine WO_val (v := .iptr _ _) rfl rfl ?_
    dsimp only [Fr.put, lset]
    refine WO_val (v := .bool false) rfl (congrArg (fun b => ORes.val (.bool b)) (decide_eq_false (by omega))) ?_
    dsimp only [Fr.put, lset]
    refine WO_nil (k_seq ?_)
    refine W_cond rfl (fun h => by cases h) (fun _ => ?_)
    refine W_skip (k_seq (W_seq (W_seq (W_ops ?_))))
    first | refine WO_val (v := .int _ _) rfl rfl ?_ | refine WO_val (v := .bool _) rfl rfl ?_ | refine WO_val (v := .str _) rfl rfl ?_ | refine WO_val (v := .ptr _ _) rfl rfl ?_ | refine WO_val (v := .iptr _ _) rfl rfl ?_
    dsimp only [Fr.put, lset]
    refine WO_val (v := .int .i64 ((k + 1 : Nat) : Int)) rfl (congrArg (fun z => ORes.val (.int .i64 z)) (by rw [wrap_i64 (by omega) (by omega)]; omega)) ?_
    dsimp only [Fr.put, lset]
    first | refine WO_val (v := .int _ _) rfl rfl ?_ | refine WO_val (v := .bool _) rfl rfl ?_ | refine WO_val (v := .str _) rfl rfl ?_ | refine WO_val (v := .ptr _ _) rfl rfl ?_ | refine WO_val (v := .iptr _ _) rfl rfl ?_
    dsimp only [Fr.put, lset]
    refine WO_nil (k_seq (W_block ?_))
    have hkl : (all.take k).length = k := by simp; omega
    refine delFunc_loop n r hn (all.drop (k + 1)) (k + 1) all (all.take k) _ _ _ rfl hall (by omega) (by omega) (by rw [hkl]) hr (by rw [hkl]; rfl) ?_
    intro cur kept st' v16 v17 v18 v19 e1 e2 e3 e4 e5
    rw [← h3] at e1
    subst e1
    have hle := ne_length_le all
    refine k_block_exit (k_seq ?_)
    unfold delFunc_r1
    refine W_seq (W_ops ?_)
    refine WO_val (v := .arr _ _ _ _) rfl rfl ?_
    dsimp only [Fr.put, lset]
    first | refine WO_val (v := .int _ _) rfl rfl ?_ | refine WO_val (v := .bool _) rfl rfl ?_ | refine WO_val (v := .str _) rfl rfl ?_ | refine WO_val (v := .ptr _ _) rfl rfl ?_ | refine WO_val (v := .iptr _ _) rfl rfl ?_
    dsimp only [Fr.put, lset]
    refine WO_val rfl (slV_arr (i := ((ne all).length : Int)) (j := (n : Int)) rfl rfl rfl (by omega) (by omega) (by omega)) ?_
    dsimp only [Fr.put, lset]
    refine WO_eff (v := .tuple []) (s' := st'.upd r (.cells 9 (lsetMany (strs cur) (0 + ((ne all).length : Int).toNat * 1) ((List.replicate ((n : Int) - ((ne all).length : Int)).toNat [AV.str []]).flatten)))) rfl ?_ ?_
    · simp only [opV, EArg.ev, tget, lget, Option.getD_some, e5]
      rw [if_pos (by rw [strs_length]; omega)]
    dsimp only [Fr.put, lset]
    refine WO_nil (k_seq ?_)
    refine W_seq (W_ops ?_)
    refine WO_val (v := .arr _ _ _ _) rfl rfl ?_
    dsimp only [Fr.put, lset]
    first | refine WO_val (v := .int _ _) rfl rfl ?_ | refine WO_val (v := .bool _) rfl rfl ?_ | refine WO_val (v := .str _) rfl rfl ?_ | refine WO_val (v := .ptr _ _) rfl rfl ?_ | refine WO_val (v := .iptr _ _) rfl rfl ?_
    dsimp only [Fr.put, lset]
    refine WO_val rfl (slV_arr (i := (0 : Int)) (j := ((ne all).length : Int)) rfl rfl rfl (by omega) (by omega) (by omega)) ?_
    dsimp only [Fr.put, lset]
    refine WO_val (v := .arr _ _ _ _) rfl rfl ?_
    dsimp only [Fr.put, lset]
    refine WO_nil (k_seq (W_ret ?_))
    rw [← hQ]
    refine fnK_ret rfl rfl ⟨r, _, some n, ?_, by rw [St.get_upd, if_pos rfl], ?_⟩
    · show AV.arr r (0 + (0 : Int).toNat * 1) (((ne all).length : Int) - 0).toNat (Option.map _ (some n)) = _
      simp
    · have e0 : 0 + ((ne all).length : Int).toNat * 1 = (ne all).length := by simp
      rw [e0]
      refine List.ext_getElem? (fun i => ?_)
      rw [List.getElem?_take]
      split
      · rename_i hi
        rw [lsetMany_get, if_neg (by omega)]
        have : (strs cur)[i]? = ((strs cur).take (ne all).length)[i]? := by rw [List.getElem?_take, if_pos hi]
        rw [this]
        unfold strs
        rw [← List.map_take, e4]
      · rename_i hi
        rw [List.getElem?_eq_none (by rw [strs_length]; omega)]

theorem deskSplit_ok (l : List UInt8) (hl : l.length < 4294967281) (st : St) :
    CallW XD 16 [.str l] st (fun v st' => Begins st' v (ne (piecesF (l.count 32) l))) (fun _ _ => False) := by
  have hcl := count_le l
  refine CallW_fn rfl fn_deskSplit ?_
  generalize hQ : fnK deskSplit (fun v st' => Begins st' v (ne (piecesF (l.count 32) l))) (fun _ _ => False) = Q
  unfold deskSplit deskSplit_c EFn.enter
  dsimp only [List.length, List.replicate, List.cons_append, List.nil_append, Nat.reduceAdd, Nat.reduceSub]
  refine W_seq (W_ops ?_)
  refine WO_val (v := .nilslice) rfl rfl ?_
  dsimp only [Fr.put, lset]
  refine WO_nil (k_seq ?_)
  refine W_seq (W_ops ?_)
  first | refine WO_val (v := .int _ _) rfl rfl ?_ | refine WO_val (v := .bool _) rfl rfl ?_ | refine WO_val (v := .str _) rfl rfl ?_ | refine WO_val (v := .ptr _ _) rfl rfl ?_ | refine WO_val (v := .iptr _ _) rfl rfl ?_
  dsimp only [Fr.put, lset]
  refine WO_call rfl rfl ((split_ok l hl st).mono (fun v st' hv => ?_) (fun _ _ h => h.elim))
  obtain ⟨r, rfl, hr⟩ := hv
  dsimp only [Fr.put, lset]
  refine WO_call rfl rfl ((delFunc_ok (piecesF (l.count 32) l) (l.count 32 + 1) r (by omega) (piecesF_length _ _) st' hr).mono (fun v st' hv => ?_) (fun _ _ h => h.elim))
  obtain ⟨r, c, co, rfl, h1, h2⟩ := hv
  dsimp only [Fr.put, lset]
  refine WO_val (v := .arr _ _ _ _) rfl rfl ?_
  dsimp only [Fr.put, lset]
  refine WO_nil (k_seq (W_ret ?_))
  rw [← hQ]
  exact fnK_ret rfl rfl ⟨r, c, co, rfl, h1, h2⟩

theorem wordLen_count0 : ∀ (l : List UInt8), l.count 32 = 0 → wordLen l = l.length
  | [], _ => rfl
  | c :: l, h => by
    by_cases hc : c = 32
    · subst hc; simp at h
    · simp only [wordLen, if_neg hc, List.length_cons]
      rw [wordLen_count0 l (by rw [List.count_cons, if_neg (by simpa using hc)] at h; simpa using h)]

/-- The pieces between the blanks, without the empty ones, are the words. -/
theorem ne_pieces : ∀ (k : Nat) (l : List UInt8) (f : Nat), l.count 32 = k → l.length < f → ne (piecesF k l) = wordsF f l
  | 0, l, f, h, hf => by
    obtain ⟨f, rfl⟩ : ∃ g, f = g + 1 := ⟨f - 1, by omega⟩
    have hw := wordLen_count0 l h
    by_cases hl : l = []
    · subst hl; rfl
    · have hp : wordLen l ≠ 0 := by
        rw [hw]; intro h0; exact hl (List.length_eq_zero_iff.1 h0)
      simp only [piecesF, wordsF, if_neg hl, if_neg hp]
      rw [ne_cons hl, hw, List.take_length, List.drop_of_length_le (by omega)]
      cases f <;> rfl
  | k + 1, l, f, h, hf => by
    obtain ⟨f, rfl⟩ : ∃ g, f = g + 1 := ⟨f - 1, by omega⟩
    obtain ⟨c1, c2⟩ := count_wordLen l k h
    have hl : l ≠ [] := by rintro rfl; simp at h
    have ih := ne_pieces k (l.drop (wordLen l + 1)) f c2 (by simp; omega)
    simp only [piecesF, wordsF, if_neg hl]
    by_cases hp : wordLen l = 0
    · rw [if_pos hp, ← ih, hp, List.take_zero, ne_nil]
      rfl
    · rw [if_neg hp, ← ih, ne_cons]
      · rfl
      · intro h0
        have := congrArg List.length h0
        rw [List.length_take, List.length_nil] at this
        omega


end Go.Proofs.YtnmfnbhgolakkaaGreatDoor

/- The third alive: run by Lean's kernel. No condition. -/
namespace Go.Proofs.YtnmfnbhgolakkaaGreatDoor
open Go GoE
set_option maxRecDepth 1000000
def isTrue : COut → Bool
  | .ret (.bool true) _ => true
  | _ => false
theorem pTrue_of {n f : Nat} (h : isTrue (callN X0 n f [] St.start) = true) : PrimOK P L f pTrue := by
  have hp : PrimOK P L f (pureOf fun args => match args with | [] => some (.bool true) | _ => none) := by
    refine pureOf_ok X0_ok L_pure (fun args v hF => ?_)
    cases args with
    | cons _ _ => cases hF
    | nil =>
      cases hF
      refine ⟨[], FrzL.nil, n, ?_⟩
      cases hc : callN X0 n f [] St.start with
      | fail _ => rw [hc] at h; cases h
      | panic _ _ => rw [hc] at h; cases h
      | ret u s' =>
        rw [hc] at h
        cases u <;> try cases h
        rename_i b
        cases b
        · cases h
        · exact Frz.bool true
  intro args s G w args' hi hg hv
  have := hp args s G w args' hi hg hv
  cases args with
  | nil => exact this
  | cons _ _ => trivial
theorem alive37_run : isTrue (callN X0 1000 18 [] St.start) = true := by decide +kernel
theorem alive37_ok : PrimOK P L 18 pTrue := pTrue_of alive37_run
end Go.Proofs.YtnmfnbhgolakkaaGreatDoor

/- The statement's function. No condition. -/
namespace Go.Proofs.YtnmfnbhgolakkaaGreatDoor
open Go GoE
set_option maxRecDepth 100000
theorem primsD_ok : ∀ f p, primsD f = some p → PrimOK P L f p := by
  intro f p h
  unfold primsD at h
  split at h
  · cases h; rename_i e; subst e; exact alive37_ok
  · exact prims0_ok f p h
theorem XD_ok : ProgOK P L XD := mkProg_ok L_ok _ primsD_ok

theorem ty9 : ∃ ti, L.ty 9 = some ti ∧ ti.agg = false ∧ ti.size = 1 := by
  have h : (match L.ty 9 with | some ti => !ti.agg && ti.size == 1 | none => false) = true := by kernel_rfl
  cases ht : L.ty 9 with
  | none => rw [ht] at h; cases h
  | some ti =>
    rw [ht] at h
    simp only [Bool.and_eq_true, Bool.not_eq_true', beq_iff_eq] at h
    exact ⟨ti, rfl, h.1, h.2⟩

theorem strs_cells (ws : List (List UInt8)) : (strs ws).flatMap AV.cells = strs ws := by
  induction ws with
  | nil => rfl
  | cons w ws ih =>
    show [AV.str w] ++ (strs ws).flatMap AV.cells = _
    rw [ih]; rfl

theorem FrzL.strs (s : St) (ws : List (List UInt8)) : FrzL L s (strs ws) (strs ws) :=
  FrzL.refl (fun a ha => by
    obtain ⟨w, _, rfl⟩ := List.mem_map.1 ha
    exact Frz.str w)

theorem Frz.begins {s : St} {av : AV} {ws : List (List UInt8)} (h : Begins s av ws) : Frz L s av (.slice 1 .closed (strs ws)) := by
  obtain ⟨r, c, co, rfl, hr, hc⟩ := h
  obtain ⟨ti, h1, h2, h3⟩ := ty9
  obtain ⟨n, hn⟩ := FrzL.strs s ws
  have hlen : ws.length ≤ c.length := by
    have := congrArg List.length hc
    rw [List.length_take, strs_length] at this
    omega
  have h4 : ltake c 0 (ws.length * 1) = some (strs ws) := by
    unfold ltake
    rw [if_pos (by omega), List.drop_zero, Nat.mul_one, hc]
  refine ⟨n + 1, ?_⟩
  simp only [frz, hr, h1, h3, h4, hn, groupEls, h2]
  rw [if_neg (by decide)]
  simp only [Bool.false_eq_true, if_false, strs_cells, AV.beqL_refl, strs_length, beq_self_eq_true, Bool.and_true]
  rw [if_pos (List.all_eq_true.2 fun x hx => by
    obtain ⟨w, _, rfl⟩ := List.mem_map.1 hx
    rfl)]

theorem Frz.outRel {s : St} {av : AV} {ws : List (List UInt8)} (h : OutRel s av ws) : Frz L s av (if ws = [] then .nilslice else .slice 1 .closed (strs ws)) := by
  rcases h with ⟨rfl, rfl⟩ | ⟨hne, k, rfl, _⟩
  · rw [if_pos rfl]; exact Frz.nilslice
  · rw [if_neg hne]
    exact Frz.slice (FrzL.strs s ws) (fun x hx => by
      obtain ⟨w, _, rfl⟩ := List.mem_map.1 hx
      rfl)

/-- The words of a text. -/
def words (l : List UInt8) : List (List UInt8) := wordsF (l.length + 1) l

theorem wordsF_length : ∀ (f : Nat) (l : List UInt8), (wordsF f l).length ≤ l.length
  | 0, l => by simp [wordsF]
  | f + 1, l => by
    unfold wordsF
    by_cases hl : l = []
    · simp [hl]
    · rw [if_neg hl]
      have h1 := wordsF_length f (l.drop (wordLen l + 1))
      have h2 := wordLen_le l
      have h3 : 0 < l.length := List.length_pos_iff.2 hl
      rw [List.length_drop] at h1
      split <;> simp <;> omega

def fSplit : List AV → Option AV := fun args => match args with
  | [.str l] => if l.length < 4294967281 then some (.slice 1 .closed (strs (words l))) else none
  | _ => none
def fParts : List AV → Option AV := fun args => match args with
  | [.str l] => if l.length < 4294967281 then some (if words l = [] then .nilslice else .slice 1 .closed (strs (words l))) else none
  | _ => none
theorem fSplit_inv {args : List AV} {v : AV} (h : fSplit args = some v) : ∃ l, args = [.str l] ∧ l.length < 4294967281 ∧ v = .slice 1 .closed (strs (words l)) := by
  unfold fSplit at h
  split at h
  · rename_i l
    split at h
    · rename_i hl; cases h; exact ⟨l, rfl, hl, rfl⟩
    · cases h
  · cases h
theorem fParts_inv {args : List AV} {v : AV} (h : fParts args = some v) : ∃ l, args = [.str l] ∧ l.length < 4294967281 ∧ v = if words l = [] then .nilslice else .slice 1 .closed (strs (words l)) := by
  unfold fParts at h
  split at h
  · rename_i l
    split at h
    · rename_i hl; cases h; exact ⟨l, rfl, hl, rfl⟩
    · cases h
  · cases h
theorem fSplit_eq {l : List UInt8} (h : l.length < 4294967281) : fSplit [.str l] = some (.slice 1 .closed (strs (words l))) := by simp [fSplit, h]
theorem fParts_eq {l : List UInt8} (h : l.length < 4294967281) : fParts [.str l] = some (if words l = [] then .nilslice else .slice 1 .closed (strs (words l))) := by simp [fParts, h]

def primsE : Nat → Option (List AV → St → COut) := fun f => if f = 16 then some (pureOf fSplit) else if f = 17 then some (pureOf fParts) else primsD f
noncomputable def XE : EProg := mkProg P L (fun _ => killsOf) primsE
theorem primsE_ok : ∀ f p, primsE f = some p → PrimOK P L f p := by
  intro f p h
  unfold primsE at h
  split at h
  · cases h; rename_i e; subst e
    refine pureOf_ok XD_ok L_pure (fun args v hF => ?_)
    obtain ⟨l, rfl, hl, rfl⟩ := fSplit_inv hF
    refine ⟨_, FrzL.cons (Frz.str l) FrzL.nil, (deskSplit_ok l hl St.start).mono (fun v s hv => ?_) (fun _ _ h => h)⟩
    rw [ne_pieces _ l (l.length + 1) rfl (by omega)] at hv
    exact Frz.begins hv
  split at h
  · cases h; rename_i e; subst e
    refine pureOf_ok XD_ok L_pure (fun args v hF => ?_)
    obtain ⟨l, rfl, hl, rfl⟩ := fParts_inv hF
    exact ⟨_, FrzL.cons (Frz.str l) FrzL.nil, (parts_ok l (by omega) St.start).mono (fun v s hv => Frz.outRel hv) (fun _ _ h => h)⟩
  · exact primsD_ok f p h
theorem XE_ok : ProgOK P L XE := mkProg_ok L_ok _ primsE_ok
theorem primE_16 : XE.prim 16 = some (pureOf fSplit) := rfl
theorem primE_17 : XE.prim 17 = some (pureOf fParts) := rfl
theorem primE_18 : XE.prim 18 = some pTrue := rfl
theorem primE_6 : XE.prim 6 = none := rfl
theorem fnE_deskSplits : XE.fn 6 = some deskSplits := fn_deskSplits

theorem load_icell {R : Rt} {tmps : List AV} {s : St} {x : EArg} {off : Nat} {c : List AV} {v : AV} (hx : x.ev tmps = .iptr c off) (hv : c[off]? = some v) :
    opV R tmps s (.load 1 false x) = .val v := by
  have hl : off < c.length := (List.getElem?_eq_some_iff.1 hv).1
  have he := (List.getElem?_eq_some_iff.1 hv).2
  have h1 : ltake c off 1 = some [v] := by
    unfold ltake
    rw [if_pos (by omega), List.drop_eq_getElem_cons hl, he]
    rfl
  simp only [opV, hx, loadL, h1]
  rfl


theorem idxS_ev {R : Rt} {tmps : List AV} {s : St} {x y : EArg} {sz : Nat} {tk : Tok} {es : List AV} {k : IntKind} {i : Int} {v : AV} (hx : x.ev tmps = .slice sz tk es) (hy : y.ev tmps = .int k i) (h1 : 0 ≤ i) (h2 : es[i.toNat]? = some v) :
    opV R tmps s (.idxS sz x y) = .val (.iptr v.cells 0) := by
  simp only [opV, hx, hy, lget_eq, h2, if_true]
  rw [if_pos h1]

theorem strNe_ev {R : Rt} {tmps : List AV} {s : St} {x y : EArg} {a : List UInt8} (hx : x.ev tmps = .str a) (hy : y.ev tmps = .str a) :
    opV R tmps s (.bin .neq x y) = .val (.bool false) := by
  simp only [opV, hx, hy, binOpV, strOpV]
  simp

def sF (ws : List (List UInt8)) (W : AV) (i : Nat) : Fr := ⟨[.junk, .junk, .junk, .slice 1 .closed (strs ws), W, .int .i64 i, .junk, .junk, .junk, .junk, .junk, .junk, .junk, .junk, .junk, .junk, .junk, .junk, .junk, .junk, .junk, .junk, .junk, .junk, .junk, .junk, .junk, .junk, .junk, .junk, .junk, .junk, .junk, .junk, .junk, .junk, .junk, .junk, .junk], [], .off⟩

theorem deskSplits_loop (ws : List (List UInt8)) (hn : ws.length < 4294967296) : ∀ (m i : Nat) (fr : Fr) (st : St) (Q : EExit → Fr → St → Prop),
    ws.length - i = m → i ≤ ws.length → fr.kill deskSplits_k0 = sF ws (.slice 1 .closed (strs ws)) i →
    (∀ (st' : St) (v10 v11 v12 v13 : AV), Q (.exit 0) ⟨[.junk, .junk, .junk, .slice 1 .closed (strs ws), .slice 1 .closed (strs ws), .int .i64 ws.length, .junk, .junk, .junk, .junk, v10, v11, v12, v13, .junk, .junk, .junk, .junk, .junk, .junk, .junk, .junk, .junk, .junk, .junk, .junk, .junk, .junk, .junk, .junk, .junk, .junk, .junk, .junk, .junk, .junk, .junk, .junk, .junk], [], .off⟩ st') →
    WC XE (.loop deskSplits_k0 deskSplits_b0) fr st Q := by
  intro m
  induction m with
  | zero =>
    intro i fr st Q hm hi hk hQ
    have e : i = ws.length := by omega
    refine W_loop ?_
    rw [hk]
    unfold deskSplits_b0 sF
    refine W_seq (W_seq (W_ops ?_))
    first | refine WO_val (v := .int _ _) rfl rfl ?_ | refine WO_val (v := .bool _) rfl rfl ?_ | refine WO_val (v := .str _) rfl rfl ?_ | refine WO_val (v := .ptr _ _) rfl rfl ?_ | refine WO_val (v := .iptr _ _) rfl rfl ?_
    dsimp only [Fr.put, lset]
    refine WO_val (v := .slice _ _ _) rfl rfl ?_
    dsimp only [Fr.put, lset]
    refine WO_val (v := .int .i64 (strs ws).length) rfl rfl ?_
    dsimp only [Fr.put, lset]
    refine WO_val (v := .bool false) rfl (congrArg (fun b => ORes.val (.bool b)) (decide_eq_false (by rw [strs_length]; omega))) ?_
    dsimp only [Fr.put, lset]
    refine WO_nil (k_seq ?_)
    refine W_cond rfl (fun h => by cases h) (fun _ => ?_)
    rw [e]
    exact W_exit (k_seq_exit (k_loop_exit (hQ _ _ _ _ _)))
  | succ m ih =>
    intro i fr st Q hm hi hk hQ
    have hin : i < ws.length := by omega
    have hget : ws[i]? = some ws[i] := List.getElem?_eq_getElem hin
    generalize ws[i] = w at hget
    refine W_loop ?_
    rw [hk]
    unfold deskSplits_b0 sF
    refine W_seq (W_seq (W_ops ?_))
    first | refine WO_val (v := .int _ _) rfl rfl ?_ | refine WO_val (v := .bool _) rfl rfl ?_ | refine WO_val (v := .str _) rfl rfl ?_ | refine WO_val (v := .ptr _ _) rfl rfl ?_ | refine WO_val (v := .iptr _ _) rfl rfl ?_
    dsimp only [Fr.put, lset]
    refine WO_val (v := .slice _ _ _) rfl rfl ?_
    dsimp only [Fr.put, lset]
    refine WO_val (v := .int .i64 (strs ws).length) rfl rfl ?_
    dsimp only [Fr.put, lset]
    refine WO_val (v := .bool true) rfl (congrArg (fun b => ORes.val (.bool b)) (decide_eq_true (by rw [strs_length]; omega))) ?_
    dsimp only [Fr.put, lset]
    refine WO_nil (k_seq ?_)
    refine W_cond rfl (fun _ => ?_) (fun h => by cases h)
    refine W_skip (k_seq (W_seq (W_block (W_seq (W_draw ?_)))))
    refine WD_val (v := .int _ _) rfl rfl rfl ?_
    dsimp only [Fr.put, lset]
    refine WD_val (v := .slice _ _ _) rfl rfl rfl ?_
    dsimp only [Fr.put, lset]
    refine WD_val (v := .int .i64 (strs ws).length) rfl rfl rfl ?_
    dsimp only [Fr.put, lset]
    refine WD_val (v := .bool false) rfl rfl (congrArg (fun b => ORes.val (.bool b)) (decide_eq_false (by rw [strs_length]; omega))) ?_
    dsimp only [Fr.put, lset]
    refine WD_val (v := .bool false) rfl rfl rfl ?_
    dsimp only [Fr.put, lset]
    refine WD_val (v := .slice _ _ _) rfl rfl rfl ?_
    dsimp only [Fr.put, lset]
    refine WD_val (v := .int _ _) rfl rfl rfl ?_
    dsimp only [Fr.put, lset]
    refine WD_val (v := .iptr [.str w] 0) rfl rfl (idxS_ev (v := .str w) rfl rfl (by omega) (strs_get hget)) ?_
    dsimp only [Fr.put, lset]
    refine WD_load (v := .str w) rfl (load_icell rfl rfl) ?_
    dsimp only [Fr.put, lset]
    refine WD_val (v := .slice _ _ _) rfl rfl rfl ?_
    dsimp only [Fr.put, lset]
    refine WD_val (v := .int _ _) rfl rfl rfl ?_
    dsimp only [Fr.put, lset]
    refine WD_val (v := .iptr [.str w] 0) rfl rfl (idxS_ev (v := .str w) rfl rfl (by omega) (strs_get hget)) ?_
    dsimp only [Fr.put, lset]
    refine WD_load (v := .str w) rfl (load_icell rfl rfl) ?_
    dsimp only [Fr.put, lset]
    refine WD_val (v := .bool false) rfl rfl (strNe_ev (a := w) rfl rfl) ?_
    dsimp only [Fr.put, lset]
    refine WD_val (v := .bool false) rfl rfl rfl ?_
    dsimp only [Fr.put, lset]
    refine WD_nil rfl (k_seq ?_)
    refine W_cond rfl (fun h => by cases h) (fun _ => ?_)
    refine W_skip (k_block 1 (k_seq (W_ops ?_)))
    first | refine WO_val (v := .int _ _) rfl rfl ?_ | refine WO_val (v := .bool _) rfl rfl ?_ | refine WO_val (v := .str _) rfl rfl ?_ | refine WO_val (v := .ptr _ _) rfl rfl ?_ | refine WO_val (v := .iptr _ _) rfl rfl ?_
    dsimp only [Fr.put, lset]
    refine WO_val (v := .int .i64 ((i + 1 : Nat) : Int)) rfl (congrArg (fun z => ORes.val (.int .i64 z)) (by rw [wrap_i64 (by omega) (by omega)]; omega)) ?_
    dsimp only [Fr.put, lset]
    first | refine WO_val (v := .int _ _) rfl rfl ?_ | refine WO_val (v := .bool _) rfl rfl ?_ | refine WO_val (v := .str _) rfl rfl ?_ | refine WO_val (v := .ptr _ _) rfl rfl ?_ | refine WO_val (v := .iptr _ _) rfl rfl ?_
    dsimp only [Fr.put, lset]
    refine WO_nil (k_loop ?_)
    exact ih (i + 1) _ _ Q (by omega) (by omega) rfl hQ

theorem deskSplits_loop0 (fr : Fr) (st : St) (Q : EExit → Fr → St → Prop) (hk : fr.kill deskSplits_k0 = sF [] .nilslice 0)
    (hQ : ∀ (st' : St) (v10 v11 v12 v13 : AV), Q (.exit 0) ⟨[.junk, .junk, .junk, .slice 1 .closed (strs []), .nilslice, .int .i64 0, .junk, .junk, .junk, .junk, v10, v11, v12, v13, .junk, .junk, .junk, .junk, .junk, .junk, .junk, .junk, .junk, .junk, .junk, .junk, .junk, .junk, .junk, .junk, .junk, .junk, .junk, .junk, .junk, .junk, .junk, .junk, .junk], [], .off⟩ st') :
    WC XE (.loop deskSplits_k0 deskSplits_b0) fr st Q := by
  refine W_loop ?_
  rw [hk]
  unfold deskSplits_b0 sF
  refine W_seq (W_seq (W_ops ?_))
  first | refine WO_val (v := .int _ _) rfl rfl ?_ | refine WO_val (v := .bool _) rfl rfl ?_ | refine WO_val (v := .str _) rfl rfl ?_ | refine WO_val (v := .ptr _ _) rfl rfl ?_ | refine WO_val (v := .iptr _ _) rfl rfl ?_
  dsimp only [Fr.put, lset]
  refine WO_val (v := .nilslice) rfl rfl ?_
  dsimp only [Fr.put, lset]
  refine WO_val (v := .int .i64 0) rfl rfl ?_
  dsimp only [Fr.put, lset]
  refine WO_val (v := .bool false) rfl rfl ?_
  dsimp only [Fr.put, lset]
  refine WO_nil (k_seq ?_)
  refine W_cond rfl (fun h => by cases h) (fun _ => ?_)
  exact W_exit (k_seq_exit (k_loop_exit (hQ _ _ _ _ _)))

theorem deskSplits_ok (l : List UInt8) (hl : l.length < 4294967281) (st : St) : CallW XE 6 [.str l] st (fun v _ => v = .bool true) (fun _ _ => False) := by
  have hw : (words l).length < 4294967296 := by
    have := wordsF_length (l.length + 1) l
    unfold words
    omega
  refine CallW_fn primE_6 fnE_deskSplits ?_
  generalize hQ : fnK deskSplits (fun v _ => v = .bool true) (fun _ _ => False) = Q
  unfold deskSplits deskSplits_c EFn.enter
  dsimp only [List.length, List.replicate, List.cons_append, List.nil_append, Nat.reduceAdd, Nat.reduceSub]
  refine W_seq (W_ops ?_)
  first | refine WO_val (v := .int _ _) rfl rfl ?_ | refine WO_val (v := .bool _) rfl rfl ?_ | refine WO_val (v := .str _) rfl rfl ?_ | refine WO_val (v := .ptr _ _) rfl rfl ?_ | refine WO_val (v := .iptr _ _) rfl rfl ?_
  dsimp only [Fr.put, lset]
  refine WO_nil (k_seq ?_)
  refine W_seq (W_ops ?_)
  first | refine WO_val (v := .int _ _) rfl rfl ?_ | refine WO_val (v := .bool _) rfl rfl ?_ | refine WO_val (v := .str _) rfl rfl ?_ | refine WO_val (v := .ptr _ _) rfl rfl ?_ | refine WO_val (v := .iptr _ _) rfl rfl ?_
  dsimp only [Fr.put, lset]
  refine WO_call rfl rfl (CallW.pure primE_16 (fSplit_eq hl) ?_)
  dsimp only [Fr.put, lset]
  first | refine WO_val (v := .int _ _) rfl rfl ?_ | refine WO_val (v := .bool _) rfl rfl ?_ | refine WO_val (v := .str _) rfl rfl ?_ | refine WO_val (v := .ptr _ _) rfl rfl ?_ | refine WO_val (v := .iptr _ _) rfl rfl ?_
  dsimp only [Fr.put, lset]
  refine WO_call rfl rfl (CallW.pure primE_17 (fParts_eq hl) ?_)
  dsimp only [Fr.put, lset]
  refine WO_val (v := .slice _ _ _) rfl rfl ?_
  dsimp only [Fr.put, lset]
  generalize words l = ws at hw
  by_cases hws : ws = []
  · subst hws
    rw [if_pos rfl]
    refine WO_val (v := .nilslice) rfl rfl ?_
    dsimp only [Fr.put, lset]
    refine WO_nil (k_seq ?_)
    refine W_seq (W_seq (W_ops ?_))
    first | refine WO_val (v := .int _ _) rfl rfl ?_ | refine WO_val (v := .bool _) rfl rfl ?_ | refine WO_val (v := .str _) rfl rfl ?_ | refine WO_val (v := .ptr _ _) rfl rfl ?_ | refine WO_val (v := .iptr _ _) rfl rfl ?_
    dsimp only [Fr.put, lset]
    refine WO_nil (k_seq (W_block ?_))
    refine deskSplits_loop0 _ _ _ rfl ?_
    intro st' v10 v11 v12 v13
    refine k_block_exit (k_seq ?_)
    unfold deskSplits_r1
    refine W_seq (W_ops ?_)
    refine WO_val (v := .slice _ _ _) rfl rfl ?_
    dsimp only [Fr.put, lset]
    refine WO_val (v := .int .i64 0) rfl rfl ?_
    dsimp only [Fr.put, lset]
    refine WO_val (v := .nilslice) rfl rfl ?_
    dsimp only [Fr.put, lset]
    refine WO_val (v := .int .i64 0) rfl rfl ?_
    dsimp only [Fr.put, lset]
    refine WO_val (v := .bool true) rfl rfl ?_
    dsimp only [Fr.put, lset]
    first | refine WO_val (v := .int _ _) rfl rfl ?_ | refine WO_val (v := .bool _) rfl rfl ?_ | refine WO_val (v := .str _) rfl rfl ?_ | refine WO_val (v := .ptr _ _) rfl rfl ?_ | refine WO_val (v := .iptr _ _) rfl rfl ?_
    dsimp only [Fr.put, lset]
    refine WO_call rfl rfl (CallW.ret (v := .bool true) primE_18 rfl ?_)
    dsimp only [Fr.put, lset]
    first | refine WO_val (v := .int _ _) rfl rfl ?_ | refine WO_val (v := .bool _) rfl rfl ?_ | refine WO_val (v := .str _) rfl rfl ?_ | refine WO_val (v := .ptr _ _) rfl rfl ?_ | refine WO_val (v := .iptr _ _) rfl rfl ?_
    dsimp only [Fr.put, lset]
    first | refine WO_val (v := .int _ _) rfl rfl ?_ | refine WO_val (v := .bool _) rfl rfl ?_ | refine WO_val (v := .str _) rfl rfl ?_ | refine WO_val (v := .ptr _ _) rfl rfl ?_ | refine WO_val (v := .iptr _ _) rfl rfl ?_
    dsimp only [Fr.put, lset]
    refine WO_nil (k_seq (W_ret ?_))
    rw [← hQ]
    exact fnK_ret rfl rfl rfl
  · rw [if_neg hws]
    refine WO_val (v := .slice _ _ _) rfl rfl ?_
    dsimp only [Fr.put, lset]
    refine WO_nil (k_seq ?_)
    refine W_seq (W_seq (W_ops ?_))
    first | refine WO_val (v := .int _ _) rfl rfl ?_ | refine WO_val (v := .bool _) rfl rfl ?_ | refine WO_val (v := .str _) rfl rfl ?_ | refine WO_val (v := .ptr _ _) rfl rfl ?_ | refine WO_val (v := .iptr _ _) rfl rfl ?_
    dsimp only [Fr.put, lset]
    refine WO_nil (k_seq (W_block ?_))
    refine deskSplits_loop ws hw ws.length 0 _ _ _ (by omega) (by omega) rfl ?_
    intro st' v10 v11 v12 v13
    refine k_block_exit (k_seq ?_)
    unfold deskSplits_r1
    refine W_seq (W_ops ?_)
    refine WO_val (v := .slice _ _ _) rfl rfl ?_
    dsimp only [Fr.put, lset]
    refine WO_val (v := .int .i64 (strs ws).length) rfl rfl ?_
    dsimp only [Fr.put, lset]
    refine WO_val (v := .slice _ _ _) rfl rfl ?_
    dsimp only [Fr.put, lset]
    refine WO_val (v := .int .i64 (strs ws).length) rfl rfl ?_
    dsimp only [Fr.put, lset]
    refine WO_val (v := .bool true) rfl (congrArg (fun b => ORes.val (.bool b)) (decide_eq_true rfl)) ?_
    dsimp only [Fr.put, lset]
    first | refine WO_val (v := .int _ _) rfl rfl ?_ | refine WO_val (v := .bool _) rfl rfl ?_ | refine WO_val (v := .str _) rfl rfl ?_ | refine WO_val (v := .ptr _ _) rfl rfl ?_ | refine WO_val (v := .iptr _ _) rfl rfl ?_
    dsimp only [Fr.put, lset]
    refine WO_call rfl rfl (CallW.ret (v := .bool true) primE_18 rfl ?_)
    dsimp only [Fr.put, lset]
    first | refine WO_val (v := .int _ _) rfl rfl ?_ | refine WO_val (v := .bool _) rfl rfl ?_ | refine WO_val (v := .str _) rfl rfl ?_ | refine WO_val (v := .ptr _ _) rfl rfl ?_ | refine WO_val (v := .iptr _ _) rfl rfl ?_
    dsimp only [Fr.put, lset]
    first | refine WO_val (v := .int _ _) rfl rfl ?_ | refine WO_val (v := .bool _) rfl rfl ?_ | refine WO_val (v := .str _) rfl rfl ?_ | refine WO_val (v := .ptr _ _) rfl rfl ?_ | refine WO_val (v := .iptr _ _) rfl rfl ?_
    dsimp only [Fr.put, lset]
    refine WO_nil (k_seq (W_ret ?_))
    rw [← hQ]
    exact fnK_ret rfl rfl rfl

end Go.Proofs.YtnmfnbhgolakkaaGreatDoor
