/- The models of the functions, printed by program: what each computes, in plain Lean. -/
import Derived.Test.YtphinfkojhecdaaGxL
set_option linter.unusedVariables false
set_option maxRecDepth 100000
set_option maxHeartbeats 4000000
namespace Go.Proofs.Ytphinfkojhecdaa
open Go.Gx
structure Bucket where
  Guest : Int
  Rate : Int
  Burst : Int
  Have : Int
  Tick : Int
def encBucket : Enc Bucket := ⟨fun x => [.int .i64 x.Guest, .int .i64 x.Rate, .int .i64 x.Burst, .int .i64 x.Have, .int .i64 x.Tick], 5, fun _ => rfl, by simp [Value.oneCell']⟩
structure Access where
  Address : Int
  Width : Int
  Store : Bool
def encAccess : Enc Access := ⟨fun x => [.int .i64 x.Address, .int .i64 x.Width, .bool x.Store], 3, fun _ => rfl, by simp [Value.oneCell']⟩
structure Region where
  Base : Int
  Size : Int
  Kind : Int
  Unit : Int
def encRegion : Enc Region := ⟨fun x => [.int .i64 x.Base, .int .i64 x.Size, .int .i64 x.Kind, .int .i64 x.Unit], 4, fun _ => rfl, by simp [Value.oneCell']⟩
structure l1Cur where
  code : List Int
  at_ : Int
  seed : Int
def M.l_rBig (x6 : List Int) : Option (Bool) :=
  some (decide ((x6.length : Int) > 65536))
def M.s_l1Cur_next (x61 : l1Cur) : Option (Int × Int × Int) :=
  Option.bind (α := Int) (bif decide (x61.at_ < (x61.code.length : Int)) then (Option.bind (gxIdx x61.code x61.at_) fun y79 =>
  some (w64 y79))
  else some 0) fun o75 =>
  bif decide ((w64 (x61.at_ + 1)) ≤ (x61.code.length : Int)) then some (o75, w64 (x61.at_ + 1), IntKind.u64.wrap ((IntKind.u64.wrap ((IntKind.u64.wrap (x61.seed * 6364136223846793005)) + (IntKind.u64.wrap o75))) + 843843))
  else some (w64 (gxAnd .u64 ((IntKind.u64.wrap ((IntKind.u64.wrap ((IntKind.u64.wrap (x61.seed * 6364136223846793005)) + (IntKind.u64.wrap o75))) + 843843)).fdiv (2 ^ 40)) 255), w64 (x61.at_ + 1), IntKind.u64.wrap ((IntKind.u64.wrap ((IntKind.u64.wrap (x61.seed * 6364136223846793005)) + (IntKind.u64.wrap o75))) + 843843))
def M.s_l1Cur_pick (x51 : l1Cur) (x59 : Int) : Option (Int × Int × Int) :=
  bif decide (x59 ≤ 1) then some (0, x51.at_, x51.seed)
  else (Option.bind (M.s_l1Cur_next x51) fun r93 =>
  Option.bind (α := Int × Int × Int) (bif decide (x59 > 200) then (Option.bind (M.s_l1Cur_next (⟨x51.code, r93.2.1, r93.2.2⟩ : l1Cur)) fun r106 =>
  some (w64 ((w64 (r93.1 * 256)) + r106.1), r106.2.1, r106.2.2))
  else some (r93.1, r93.2.1, r93.2.2)) fun o102 =>
  Option.bind (gxRem o102.1 x59) fun q114 =>
  some (q114, o102.2.1, o102.2.2))
def M.s_l1Cur_among (x139 : l1Cur) (x147 : List Int) : Option (Int × Int × Int) :=
  Option.bind (M.s_l1Cur_pick x139 (x147.length : Int)) fun r153 =>
  Option.bind (gxIdx x147 r153.1) fun y157 =>
  some (y157, r153.2.1, r153.2.2)
def M.s_l1Cur_region (x120 : l1Cur) : Option (Region × Int × Int) :=
  Option.bind (M.s_l1Cur_among x120 [4, 8, 16, 256, 4096]) fun r158 =>
  Option.bind (M.s_l1Cur_pick (⟨x120.code, r158.2.1, r158.2.2⟩ : l1Cur) 4) fun r162 =>
  Option.bind (M.s_l1Cur_pick (⟨x120.code, r162.2.1, r162.2.2⟩ : l1Cur) 16) fun r166 =>
  Option.bind (gxDiv 65536 r158.1) fun q178 =>
  Option.bind (M.s_l1Cur_among (⟨x120.code, r166.2.1, r166.2.2⟩ : l1Cur) [0, 1, 2, 3, 15, w64 (q178 - 1)]) fun r184 =>
  Option.bind (M.s_l1Cur_pick (⟨x120.code, r184.2.1, r184.2.2⟩ : l1Cur) 60) fun r228 =>
  Option.bind (α := Int × Int × Int × Int × Int × Int) (bif r228.1 == 0 then (Option.bind (M.s_l1Cur_among (⟨x120.code, r228.2.1, r228.2.2⟩ : l1Cur) [(-4), 2, 65536]) fun r502 =>
  some (r502.2.1, r502.2.2, r502.1, r158.1, r162.1, r166.1))
  else (Option.bind (α := Int × Int × Int × Int × Int) (bif r228.1 == 1 then (Option.bind (M.s_l1Cur_among (⟨x120.code, r228.2.1, r228.2.2⟩ : l1Cur) [0, 2, 6, 8192]) fun r638 =>
  some (r638.2.1, r638.2.2, r638.1, r162.1, r166.1))
  else (Option.bind (α := Int × Int × Int × Int) (bif r228.1 == 2 then (Option.bind (M.s_l1Cur_among (⟨x120.code, r228.2.1, r228.2.2⟩ : l1Cur) [(-1), 4]) fun r704 =>
  some (r704.2.1, r704.2.2, r704.1, r166.1))
  else (Option.bind (α := Int × Int × Int) (bif r228.1 == 3 then (Option.bind (M.s_l1Cur_among (⟨x120.code, r228.2.1, r228.2.2⟩ : l1Cur) [(-1), 16]) fun r735 =>
  some (r735.2.1, r735.2.2, r735.1))
  else some (r228.2.1, r228.2.2, r166.1)) fun o724 =>
  some (o724.1, o724.2.1, r162.1, o724.2.2))) fun o693 =>
  some (o693.1, o693.2.1, r158.1, o693.2.2.1, o693.2.2.2))) fun o627 =>
  some (o627.1, o627.2.1, w64 (r158.1 * r184.1), o627.2.2.1, o627.2.2.2.1, o627.2.2.2.2))) fun o491 =>
  some ((⟨o491.2.2.1, o491.2.2.2.1, o491.2.2.2.2.1, o491.2.2.2.2.2⟩ : Region), o491.1, o491.2.1)
def M.s_l1In (x791 : Int) (x792 : Int) (x793 : Int) : Option (Bool) :=
  Option.bind (α := Bool) (bif decide (x791 ≥ x792) then some (decide (x791 ≤ x793))
  else some false) fun o795 =>
  some o795
def M.s_l17Size (x790 : Int) : Option (Bool) :=
  Option.bind (α := Bool) (Option.bind (M.s_l1In x790 4 4096) fun r811 =>
  bif r811 then some ((gxAnd .i64 x790 (w64 (x790 - 1))) == 0)
  else some false) fun o808 =>
  some o808
def M.s_l17Address (x825 : Int) : Option (Bool) :=
  Option.bind (M.s_l1In x825 0 65535) fun r826 =>
  some r826
def M.s_l17One (x785 : Region) : Option (Bool) :=
  Option.bind (α := Bool) (Option.bind (M.s_l17Size x785.Size) fun r849 =>
  bif r849 then (Option.bind (M.s_l17Address x785.Base) fun r854 =>
  bif r854 then (Option.bind (gxRem x785.Base x785.Size) fun q859 =>
  bif q859 == 0 then (Option.bind (M.s_l1In x785.Kind 0 3) fun r861 =>
  bif r861 then (Option.bind (M.s_l1In x785.Unit 0 15) fun r866 =>
  some r866)
  else some false)
  else some false)
  else some false)
  else some false) fun o846 =>
  some o846
def M.s_l17Good (x778 : List Region) : Option (Bool) :=
  Option.bind (whileM (σ := Int) (ρ := (Unit) ⊕ (Bool)) (fun s954 =>
    bif decide (s954 < (x778.length : Int)) then (Option.bind (α := Bool) (Option.bind (gxIdx x778 s954) fun y985 =>
    Option.bind (M.s_l17One y985) fun r986 =>
    bif !r986 then some true
    else (bif decide (s954 > 0) then (Option.bind (gxIdx x778 (w64 (s954 - 1))) fun y994 =>
    Option.bind (gxIdx x778 (w64 (s954 - 1))) fun y995 =>
    Option.bind (gxIdx x778 s954) fun y996 =>
    some (decide ((w64 (y994.Base + y995.Size)) > y996.Base)))
    else some false)) fun o982 =>
    bif o982 then some (.inr (.inr false))
    else some (.inl (w64 (s954 + 1))))
    else some (.inr (.inl ()))) gxFuel 0) fun out961 => Sum.elim (fun (o964 : Unit) =>
  some (decide ((x778.length : Int) ≤ 6))) (fun r => some r) out961
def M.s_l17Add (x1015 : List Region) (x1020 : Region) : Option ((List Region)) :=
  Option.bind (whileM (σ := Int) (ρ := Int) (fun s1070 =>
    Option.bind (α := Bool) (bif decide (s1070 < (x1015.length : Int)) then (Option.bind (gxIdx x1015 s1070) fun y1091 =>
    some (decide (y1091.Base < x1020.Base)))
    else some false) fun o1087 =>
    bif o1087 then some (.inl (w64 (s1070 + 1)))
    else some (.inr s1070)) gxFuel 0) fun out1077 =>
  Option.bind (gxSlice x1015 0 out1077) fun ys1112 =>
  Option.bind (gxApp 32 ([] : List Region) ys1112) fun ap1114 =>
  Option.bind (gxApp 32 ap1114 [x1020]) fun ap1125 =>
  Option.bind (gxSlice x1015 out1077 (x1015.length : Int)) fun ys1131 =>
  Option.bind (gxApp 32 ap1125 ys1131) fun ap1180 =>
  some ap1180
def M.s_AddRegion (x763 : List Region) (x768 : Region) : Option ((List Region) × Bool) :=
  Option.bind (α := Bool) (Option.bind (M.s_l17Good x763) fun r1204 =>
  bif !r1204 then some true
  else (Option.bind (M.s_l17Add x763 x768) fun r1209 =>
  Option.bind (M.s_l17Good r1209) fun r1218 =>
  some (!r1218))) fun o1201 =>
  bif o1201 then some (([] : List Region), false)
  else (Option.bind (M.s_l17Add x763 x768) fun r1234 =>
  some (r1234, true))
def M.s_l1Cur_regions (x31 : l1Cur) : Option ((List Region) × Int × Int) :=
  Option.bind (M.s_l1Cur_pick x31 7) fun r115 =>
  Option.bind (whileM (σ := List Region × Int × Int × Int) (ρ := List Region × Int × Int) (fun s1299 =>
    bif decide (s1299.2.1 > 0) then (Option.bind (M.s_l1Cur_region (⟨x31.code, s1299.2.2.1, s1299.2.2.2⟩ : l1Cur)) fun r1321 =>
    Option.bind (M.s_AddRegion s1299.1 r1321.1) fun r1325 =>
    Option.bind (α := List Region) (bif r1325.2 then some r1325.1
    else some s1299.1) fun o1335 =>
    some (.inl (o1335, w64 (s1299.2.1 - 1), r1321.2.1, r1321.2.2)))
    else some (.inr (s1299.1, s1299.2.2.1, s1299.2.2.2))) gxFuel (([] : List Region), r115.1, r115.2.1, r115.2.2)) fun out1306 =>
  Option.bind (M.s_l1Cur_pick (⟨x31.code, out1306.2.1, out1306.2.2⟩ : l1Cur) 30) fun r1352 =>
  Option.bind (α := List Region × Int × Int) (bif r1352.1 == 0 then (Option.bind (M.s_l1Cur_region (⟨x31.code, r1352.2.1, r1352.2.2⟩ : l1Cur)) fun r1593 =>
  Option.bind (gxApp 32 out1306.1 [r1593.1]) fun ap1604 =>
  some (ap1604, r1593.2.1, r1593.2.2))
  else (Option.bind (α := List Region × Int × Int) (bif r1352.1 == 1 then (Option.bind (whileM (σ := List Region × Int × Int × Int) (ρ := List Region × Int × Int) (fun s1771 =>
    Option.bind (M.s_l1Cur_pick (⟨x31.code, s1771.2.2.1, s1771.2.2.2⟩ : l1Cur) 2) fun r1792 =>
    bif decide (s1771.2.1 < (w64 (6 + r1792.1))) then (Option.bind (gxApp 32 s1771.1 [(⟨w64 (8 * s1771.2.1), 4, s1771.2.1.tmod 4, s1771.2.1⟩ : Region)]) fun ap1804 =>
    some (.inl (ap1804, w64 (s1771.2.1 + 1), r1792.2.1, r1792.2.2)))
    else some (.inr (s1771.1, r1792.2.1, r1792.2.2))) gxFuel (([] : List Region), 0, r1352.2.1, r1352.2.2)) fun out1778 =>
  some (out1778.1, out1778.2.1, out1778.2.2))
  else some (out1306.1, r1352.2.1, r1352.2.2)) fun o1710 =>
  some (o1710.1, o1710.2.1, o1710.2.2))) fun o1584 =>
  some (o1584.1, o1584.2.1, o1584.2.2)
def M.s_DrawPlaceRegion (x16 : List Int) : Option ((List Region) × Int) :=
  Option.bind (M.s_l1Cur_regions (⟨x16, 0, 0⟩ : l1Cur)) fun r1824 =>
  Option.bind (M.s_l1Cur_pick (⟨x16, r1824.2.1, r1824.2.2⟩ : l1Cur) 24) fun r1840 =>
  Option.bind (gxSlice [4, 8, 256, 4096, 2, 6, 8192] 0 (w64 (4 + (w64 (r1840.1.tdiv 7))))) fun ys1844 =>
  Option.bind (M.s_l1Cur_among (⟨x16, r1840.2.1, r1840.2.2⟩ : l1Cur) ys1844) fun r1846 =>
  some (r1824.1, r1846.1)
def M.i_inside (x1884 : Int) (x1885 : Int) (x1886 : Int) : Option (Bool) :=
  Option.bind (α := Bool) (bif decide (x1884 ≥ x1885) then some (decide (x1884 ≤ x1886))
  else some false) fun o1888 =>
  some o1888
def M.i_isSize (x1883 : Int) : Option (Bool) :=
  Option.bind (α := Bool) (Option.bind (M.i_inside x1883 4 4096) fun r1904 =>
  bif r1904 then some ((gxAnd .i64 x1883 (w64 (x1883 - 1))) == 0)
  else some false) fun o1901 =>
  some o1901
def M.i_IsRegion (x1878 : Region) : Option (Bool) :=
  Option.bind (α := Bool) (Option.bind (M.i_isSize x1878.Size) fun r1937 =>
  bif r1937 then (Option.bind (M.i_inside x1878.Base 0 (w64 (65536 - x1878.Size))) fun r1942 =>
  bif r1942 then (Option.bind (gxRem x1878.Base x1878.Size) fun q1947 =>
  bif q1947 == 0 then (Option.bind (M.i_inside x1878.Kind 0 3) fun r1949 =>
  bif r1949 then (Option.bind (M.i_inside x1878.Unit 0 15) fun r1954 =>
  some r1954)
  else some false)
  else some false)
  else some false)
  else some false) fun o1934 =>
  some o1934
def M.i_IsMap (x1865 : List Region) : Option (Bool) :=
  Option.bind (whileM (σ := Int) (ρ := (Unit) ⊕ (Bool)) (fun s2042 =>
    bif decide (s2042 < (x1865.length : Int)) then (Option.bind (gxIdx x1865 s2042) fun y2054 =>
    Option.bind (α := Bool) (Option.bind (M.i_IsRegion y2054) fun r2078 =>
    bif !r2078 then some true
    else (bif decide (s2042 > 0) then (Option.bind (gxIdx x1865 (w64 (s2042 - 1))) fun y2086 =>
    Option.bind (gxIdx x1865 (w64 (s2042 - 1))) fun y2087 =>
    some (decide ((w64 (y2086.Base + y2087.Size)) > y2054.Base)))
    else some false)) fun o2075 =>
    bif o2075 then some (.inr (.inr false))
    else some (.inl (w64 (s2042 + 1))))
    else some (.inr (.inl ()))) gxFuel 0) fun out2049 => Sum.elim (fun (o2052 : Unit) =>
  some (decide ((x1865.length : Int) ≤ 6))) (fun r => some r) out2049
def M.slices_Clone_75 (x2130 : List Region) : Option ((List Region)) :=
  Option.bind (gxApp 32 ([] : List Region) x2130) fun ap2151 =>
  some ap2151
def M.cmp_isNaN_95 (x2243 : Int) : Option (Bool) :=
  some (x2243 != x2243)
def M.cmp_Compare_91 (x2241 : Int) (x2242 : Int) : Option (Int) :=
  Option.bind (M.cmp_isNaN_95 x2241) fun r2244 =>
  Option.bind (M.cmp_isNaN_95 x2242) fun r2248 =>
  bif r2244 then (bif r2248 then some 0
  else some (-1))
  else (bif r2248 then some 1
  else (bif decide (x2241 < x2242) then some (-1)
  else (bif decide (x2241 > x2242) then some 1
  else some 0)))
def M.i_asMap_1 (x2231 : Region) (x2232 : Region) : Option (Int) :=
  Option.bind (M.cmp_Compare_91 x2231.Base x2232.Base) fun r2257 =>
  some r2257
def M.slices_insertionSortCmpFunc_96__i_asMap_1 (x2293 : List Region) (x2299 : Int) (x2300 : Int) : Option ((List Region)) :=
  Option.bind (whileM (σ := Int × List Region) (ρ := List Region) (fun s3021 =>
    bif decide (s3021.1 < x2300) then (Option.bind (whileM (σ := Int × List Region) (ρ := List Region) (fun s3264 =>
      Option.bind (α := Bool) (bif decide (s3264.1 > x2299) then (Option.bind (gxIdx s3264.2 s3264.1) fun y3296 =>
      Option.bind (gxIdx s3264.2 (w64 (s3264.1 - 1))) fun y3297 =>
      Option.bind (M.i_asMap_1 y3296 y3297) fun r3298 =>
      some (decide (r3298 < 0)))
      else some false) fun o3292 =>
      bif o3292 then (Option.bind (gxIdx s3264.2 (w64 (s3264.1 - 1))) fun y3313 =>
      Option.bind (gxIdx s3264.2 s3264.1) fun y3314 =>
      Option.bind (gxIdx s3264.2 s3264.1) fun y3315 =>
      Option.bind (gxIdx (s3264.2.set s3264.1.toNat y3313) (w64 (s3264.1 - 1))) fun y3387 =>
      some (.inl (w64 (s3264.1 - 1), ((s3264.2.set s3264.1.toNat y3313).set (w64 (s3264.1 - 1)).toNat y3314))))
      else some (.inr s3264.2)) gxFuel (s3021.1, s3021.2)) fun out3271 =>
    some (.inl (w64 (s3021.1 + 1), out3271)))
    else some (.inr s3021.2)) gxFuel (w64 (x2299 + 1), x2293)) fun out3028 =>
  some out3028
def M.slices_swapRangeCmpFunc_99__i_asMap_1 (x4352 : List Region) (x4358 : Int) (x4359 : Int) (x4360 : Int) : Option ((List Region)) :=
  Option.bind (whileM (σ := Int × List Region) (ρ := List Region) (fun s4577 =>
    bif decide (s4577.1 < x4360) then (Option.bind (gxIdx s4577.2 (w64 (x4359 + s4577.1))) fun y4597 =>
    Option.bind (gxIdx s4577.2 (w64 (x4358 + s4577.1))) fun y4598 =>
    Option.bind (gxIdx s4577.2 (w64 (x4358 + s4577.1))) fun y4599 =>
    Option.bind (gxIdx (s4577.2.set (w64 (x4358 + s4577.1)).toNat y4597) (w64 (x4359 + s4577.1))) fun y4695 =>
    some (.inl (w64 (s4577.1 + 1), ((s4577.2.set (w64 (x4358 + s4577.1)).toNat y4597).set (w64 (x4359 + s4577.1)).toNat y4598))))
    else some (.inr s4577.2)) gxFuel (0, x4352)) fun out4584 =>
  some out4584
def M.slices_rotateCmpFunc_98__i_asMap_1 (x4705 : List Region) (x4711 : Int) (x4712 : Int) (x4713 : Int) : Option ((List Region)) :=
  Option.bind (whileM (σ := Int × Int × List Region) (ρ := Int × List Region) (fun s4800 =>
    bif s4800.1 != s4800.2.1 then (Option.bind (α := Int × Int × List Region) (bif decide (s4800.1 > s4800.2.1) then (Option.bind (M.slices_swapRangeCmpFunc_99__i_asMap_1 s4800.2.2 (w64 (x4712 - s4800.1)) x4712 s4800.2.1) fun r4840 =>
    some (w64 (s4800.1 - s4800.2.1), s4800.2.1, r4840))
    else (Option.bind (M.slices_swapRangeCmpFunc_99__i_asMap_1 s4800.2.2 (w64 (x4712 - s4800.1)) (w64 ((w64 (x4712 + s4800.2.1)) - s4800.1)) s4800.1) fun r4847 =>
    some (s4800.1, w64 (s4800.2.1 - s4800.1), r4847))) fun o4833 =>
    some (.inl (o4833.1, o4833.2.1, o4833.2.2)))
    else some (.inr (s4800.1, s4800.2.2))) gxFuel (w64 (x4712 - x4711), w64 (x4713 - x4712), x4705)) fun out4807 =>
  Option.bind (M.slices_swapRangeCmpFunc_99__i_asMap_1 out4807.2 (w64 (x4712 - out4807.1)) x4712 out4807.1) fun r4862 =>
  some r4862
def M.slices_symMergeCmpFunc_97__i_asMap_1 : Nat → (List Region) → Int → Int → Int → Option ((List Region))
  | 0, _, _, _, _ => none
  | n_ + 1, x3550, x3556, x3557, x3558 =>
    bif (w64 (x3557 - x3556)) == 1 then (Option.bind (whileM (σ := Int × Int) (ρ := Int) (fun s3597 =>
      bif decide (s3597.1 < s3597.2) then (Option.bind (gxIdx x3550 (w64 ((IntKind.u64.wrap (w64 (s3597.1 + s3597.2))).fdiv (2 ^ 1)))) fun y3609 =>
      Option.bind (gxIdx x3550 x3556) fun y3610 =>
      Option.bind (M.i_asMap_1 y3609 y3610) fun r3611 =>
      Option.bind (α := Int × Int) (bif decide (r3611 < 0) then some (w64 ((w64 ((IntKind.u64.wrap (w64 (s3597.1 + s3597.2))).fdiv (2 ^ 1))) + 1), s3597.2)
      else some (s3597.1, w64 ((IntKind.u64.wrap (w64 (s3597.1 + s3597.2))).fdiv (2 ^ 1)))) fun o3618 =>
      some (.inl (o3618.1, o3618.2)))
      else some (.inr s3597.1)) gxFuel (x3557, x3558)) fun out3604 =>
    Option.bind (whileM (σ := Int × List Region) (ρ := List Region) (fun s3797 =>
      bif decide (s3797.1 < (w64 (out3604 - 1))) then (Option.bind (gxIdx s3797.2 (w64 (s3797.1 + 1))) fun y3817 =>
      Option.bind (gxIdx s3797.2 s3797.1) fun y3818 =>
      Option.bind (gxIdx s3797.2 s3797.1) fun y3819 =>
      Option.bind (gxIdx (s3797.2.set s3797.1.toNat y3817) (w64 (s3797.1 + 1))) fun y3891 =>
      some (.inl (w64 (s3797.1 + 1), ((s3797.2.set s3797.1.toNat y3817).set (w64 (s3797.1 + 1)).toNat y3818))))
      else some (.inr s3797.2)) gxFuel (x3556, x3550)) fun out3804 =>
    some out3804)
    else (bif (w64 (x3558 - x3557)) == 1 then (Option.bind (whileM (σ := Int × Int) (ρ := Int) (fun s3937 =>
      bif decide (s3937.1 < s3937.2) then (Option.bind (gxIdx x3550 x3557) fun y3949 =>
      Option.bind (gxIdx x3550 (w64 ((IntKind.u64.wrap (w64 (s3937.1 + s3937.2))).fdiv (2 ^ 1)))) fun y3950 =>
      Option.bind (M.i_asMap_1 y3949 y3950) fun r3951 =>
      Option.bind (α := Int × Int) (bif !(decide (r3951 < 0)) then some (w64 ((w64 ((IntKind.u64.wrap (w64 (s3937.1 + s3937.2))).fdiv (2 ^ 1))) + 1), s3937.2)
      else some (s3937.1, w64 ((IntKind.u64.wrap (w64 (s3937.1 + s3937.2))).fdiv (2 ^ 1)))) fun o3958 =>
      some (.inl (o3958.1, o3958.2)))
      else some (.inr s3937.1)) gxFuel (x3556, x3557)) fun out3944 =>
    Option.bind (whileM (σ := Int × List Region) (ρ := List Region) (fun s4137 =>
      bif decide (s4137.1 > out3944) then (Option.bind (gxIdx s4137.2 (w64 (s4137.1 - 1))) fun y4157 =>
      Option.bind (gxIdx s4137.2 s4137.1) fun y4158 =>
      Option.bind (gxIdx s4137.2 s4137.1) fun y4159 =>
      Option.bind (gxIdx (s4137.2.set s4137.1.toNat y4157) (w64 (s4137.1 - 1))) fun y4231 =>
      some (.inl (w64 (s4137.1 - 1), ((s4137.2.set s4137.1.toNat y4157).set (w64 (s4137.1 - 1)).toNat y4158))))
      else some (.inr s4137.2)) gxFuel (x3557, x3550)) fun out4144 =>
    some out4144)
    else (Option.bind (α := Int × Int) (bif decide (x3557 > (w64 ((IntKind.u64.wrap (w64 (x3556 + x3558))).fdiv (2 ^ 1)))) then some (w64 ((w64 ((w64 ((IntKind.u64.wrap (w64 (x3556 + x3558))).fdiv (2 ^ 1))) + x3557)) - x3558), w64 ((IntKind.u64.wrap (w64 (x3556 + x3558))).fdiv (2 ^ 1)))
    else some (x3556, x3557)) fun o4241 =>
    Option.bind (whileM (σ := Int × Int) (ρ := Int) (fun s4285 =>
      bif decide (s4285.1 < s4285.2) then (Option.bind (gxIdx x3550 (w64 ((w64 ((w64 ((w64 ((IntKind.u64.wrap (w64 (x3556 + x3558))).fdiv (2 ^ 1))) + x3557)) - 1)) - (w64 ((IntKind.u64.wrap (w64 (s4285.1 + s4285.2))).fdiv (2 ^ 1)))))) fun y4297 =>
      Option.bind (gxIdx x3550 (w64 ((IntKind.u64.wrap (w64 (s4285.1 + s4285.2))).fdiv (2 ^ 1)))) fun y4298 =>
      Option.bind (M.i_asMap_1 y4297 y4298) fun r4299 =>
      Option.bind (α := Int × Int) (bif !(decide (r4299 < 0)) then some (w64 ((w64 ((IntKind.u64.wrap (w64 (s4285.1 + s4285.2))).fdiv (2 ^ 1))) + 1), s4285.2)
      else some (s4285.1, w64 ((IntKind.u64.wrap (w64 (s4285.1 + s4285.2))).fdiv (2 ^ 1)))) fun o4306 =>
      some (.inl (o4306.1, o4306.2)))
      else some (.inr s4285.1)) gxFuel (o4241.1, o4241.2)) fun out4292 =>
    Option.bind (α := Bool) (bif decide (out4292 < x3557) then some (decide (x3557 < (w64 ((w64 ((w64 ((IntKind.u64.wrap (w64 (x3556 + x3558))).fdiv (2 ^ 1))) + x3557)) - out4292))))
    else some false) fun o4319 =>
    Option.bind (α := List Region) (bif o4319 then (Option.bind (M.slices_rotateCmpFunc_98__i_asMap_1 x3550 out4292 x3557 (w64 ((w64 ((w64 ((IntKind.u64.wrap (w64 (x3556 + x3558))).fdiv (2 ^ 1))) + x3557)) - out4292))) fun r4883 =>
    some r4883)
    else some x3550) fun o4876 =>
    Option.bind (α := Bool) (bif decide (x3556 < out4292) then some (decide (out4292 < (w64 ((IntKind.u64.wrap (w64 (x3556 + x3558))).fdiv (2 ^ 1)))))
    else some false) fun o4895 =>
    Option.bind (α := List Region) (bif o4895 then (Option.bind (M.slices_symMergeCmpFunc_97__i_asMap_1 n_ o4876 x3556 out4292 (w64 ((IntKind.u64.wrap (w64 (x3556 + x3558))).fdiv (2 ^ 1)))) fun r4918 =>
    some r4918)
    else some o4876) fun o4911 =>
    Option.bind (α := Bool) (bif decide ((w64 ((IntKind.u64.wrap (w64 (x3556 + x3558))).fdiv (2 ^ 1))) < (w64 ((w64 ((w64 ((IntKind.u64.wrap (w64 (x3556 + x3558))).fdiv (2 ^ 1))) + x3557)) - out4292))) then some (decide ((w64 ((w64 ((w64 ((IntKind.u64.wrap (w64 (x3556 + x3558))).fdiv (2 ^ 1))) + x3557)) - out4292)) < x3558))
    else some false) fun o4930 =>
    Option.bind (α := List Region) (bif o4930 then (Option.bind (M.slices_symMergeCmpFunc_97__i_asMap_1 n_ o4911 (w64 ((IntKind.u64.wrap (w64 (x3556 + x3558))).fdiv (2 ^ 1))) (w64 ((w64 ((w64 ((IntKind.u64.wrap (w64 (x3556 + x3558))).fdiv (2 ^ 1))) + x3557)) - out4292)) x3558) fun r4953 =>
    some r4953)
    else some o4911) fun o4946 =>
    some o4946))
def M.slices_stableCmpFunc_94__i_asMap_1 (x3401 : List Region) (x3407 : Int) : Option ((List Region)) :=
  Option.bind (whileM (σ := Int × Int × List Region) (ρ := Int × List Region) (fun s3428 =>
    bif decide (s3428.2.1 ≤ x3407) then (Option.bind (M.slices_insertionSortCmpFunc_96__i_asMap_1 s3428.2.2 s3428.1 s3428.2.1) fun r3446 =>
    some (.inl (s3428.2.1, w64 (s3428.2.1 + 20), r3446)))
    else some (.inr (s3428.1, s3428.2.2))) gxFuel (0, 20, x3401)) fun out3435 =>
  Option.bind (M.slices_insertionSortCmpFunc_96__i_asMap_1 out3435.2 out3435.1 x3407) fun r3457 =>
  Option.bind (whileM (σ := Int × List Region) (ρ := List Region) (fun s5115 =>
    bif decide (s5115.1 < x3407) then (Option.bind (whileM (σ := Int × Int × List Region) (ρ := Int × List Region) (fun s5152 =>
      bif decide (s5152.2.1 ≤ x3407) then (Option.bind (M.slices_symMergeCmpFunc_97__i_asMap_1 gxFuel s5152.2.2 s5152.1 (w64 (s5152.1 + s5115.1)) s5152.2.1) fun r5170 =>
      some (.inl (s5152.2.1, w64 (s5152.2.1 + (w64 (2 * s5115.1))), r5170)))
      else some (.inr (s5152.1, s5152.2.2))) gxFuel (0, w64 (2 * s5115.1), s5115.2)) fun out5159 =>
    Option.bind (α := List Region) (bif decide ((w64 (out5159.1 + s5115.1)) < x3407) then (Option.bind (M.slices_symMergeCmpFunc_97__i_asMap_1 gxFuel out5159.2 out5159.1 (w64 (out5159.1 + s5115.1)) x3407) fun r5196 =>
    some r5196)
    else some out5159.2) fun o5189 =>
    some (.inl (w64 (s5115.1 * 2), o5189)))
    else some (.inr s5115.2)) gxFuel (20, r3457)) fun out5122 =>
  some out5122
def M.slices_SortStableFunc_89__i_asMap_1 (x5212 : List Region) : Option ((List Region)) :=
  Option.bind (M.slices_stableCmpFunc_94__i_asMap_1 x5212 (x5212.length : Int)) fun r5219 =>
  some r5219
def M.i_asMap (x2183 : List Region) : Option ((List Region) × Bool) :=
  Option.bind (gxApp 32 ([] : List Region) x2183) fun ap2200 =>
  Option.bind (M.slices_SortStableFunc_89__i_asMap_1 ap2200) fun r5226 =>
  Option.bind (M.i_IsMap r5226) fun r5233 =>
  bif !r5233 then some (([] : List Region), false)
  else some (r5226, true)
def M.i_PlaceRegion (x1859 : List Region) (x1864 : Int) : Option (Int × Bool) :=
  Option.bind (α := Bool) (Option.bind (M.i_IsMap x1859) fun r2114 =>
  bif !r2114 then some true
  else (Option.bind (M.i_isSize x1864) fun r2119 =>
  bif !r2119 then some true
  else some ((x1859.length : Int) == 6))) fun o2111 =>
  bif o2111 then some (0, false)
  else (Option.bind (whileM (σ := Int) (ρ := (Unit) ⊕ (Int × Bool)) (fun s5284 =>
    bif decide ((w64 (s5284 + x1864)) ≤ 65536) then (Option.bind (M.slices_Clone_75 x1859) fun r5296 =>
    Option.bind (gxApp 32 r5296 [(⟨s5284, x1864, 0, 0⟩ : Region)]) fun ap5312 =>
    Option.bind (M.i_asMap ap5312) fun r5320 =>
    bif r5320.2 then some (.inr (.inr (s5284, true)))
    else some (.inl (w64 (s5284 + x1864))))
    else some (.inr (.inl ()))) gxFuel 0) fun out5291 => Sum.elim (fun (o5294 : Unit) =>
  some (0, false)) (fun r => some r) out5291)
def M.s_PlaceRegion (x5338 : List Region) (x5343 : Int) : Option (Int × Bool) :=
  Option.bind (α := Bool) (Option.bind (M.s_l17Good x5338) fun r5356 =>
  bif !r5356 then some true
  else (Option.bind (M.s_l17Size x5343) fun r5361 =>
  some (!r5361))) fun o5353 =>
  bif o5353 then some (0, false)
  else (Option.bind (whileM (σ := Int) (ρ := (Unit) ⊕ (Int × Bool)) (fun s5400 =>
    bif decide (s5400 < 65536) then (Option.bind (M.s_l17Add x5338 (⟨s5400, x5343, 0, 0⟩ : Region)) fun r5412 =>
    Option.bind (M.s_l17Good r5412) fun r5421 =>
    bif r5421 then some (.inr (.inr (s5400, true)))
    else some (.inl (w64 (s5400 + x5343))))
    else some (.inr (.inl ()))) gxFuel 0) fun out5407 => Sum.elim (fun (o5410 : Unit) =>
  some (0, false)) (fun r => some r) out5407)
def M.i_AddRegion (x5445 : List Region) (x5450 : Region) : Option ((List Region) × Bool) :=
  Option.bind (M.i_IsMap x5445) fun r5460 =>
  bif !r5460 then some (([] : List Region), false)
  else (Option.bind (M.slices_Clone_75 x5445) fun r5468 =>
  Option.bind (gxApp 32 r5468 [x5450]) fun ap5479 =>
  Option.bind (M.i_asMap ap5479) fun r5485 =>
  some (r5485.1, r5485.2))
def M.i_FreeSpace (x5537 : List Region) : Option (Int × Bool) :=
  Option.bind (M.i_IsMap x5537) fun r5542 =>
  bif !r5542 then some (0, false)
  else (Option.bind (whileM (σ := Int × Int) (ρ := Int) (fun s5563 =>
    bif decide (s5563.2 < (x5537.length : Int)) then (Option.bind (gxIdx x5537 s5563.2) fun y5575 =>
    some (.inl (w64 (s5563.1 - y5575.Size), w64 (s5563.2 + 1))))
    else some (.inr s5563.1)) gxFuel (65536, 0)) fun out5570 =>
  some (out5570, true))
def M.s_DrawAddRegion (x5764 : List Int) : Option ((List Region) × Region) :=
  Option.bind (M.s_l1Cur_regions (⟨x5764, 0, 0⟩ : l1Cur)) fun r5783 =>
  Option.bind (M.s_l1Cur_region (⟨x5764, r5783.2.1, r5783.2.2⟩ : l1Cur)) fun r5792 =>
  some (r5783.1, r5792.1)
def M.l_rRegions (x5832 : List Region) (x5837 : List Region) : Option (Bool) :=
  bif (x5832.length : Int) != (x5837.length : Int) then some false
  else (Option.bind (whileM (σ := Int) (ρ := (Unit) ⊕ (Bool)) (fun s5855 =>
    bif decide (s5855 < (x5832.length : Int)) then (Option.bind (gxIdx x5832 s5855) fun y5867 =>
    Option.bind (gxIdx x5837 s5855) fun y5868 =>
    bif !((y5867.Base == y5868.Base) && ((y5867.Size == y5868.Size) && ((y5867.Kind == y5868.Kind) && ((y5867.Unit == y5868.Unit) && true)))) then some (.inr (.inr false))
    else some (.inl (w64 (s5855 + 1))))
    else some (.inr (.inl ()))) gxFuel 0) fun out5862 => Sum.elim (fun (o5865 : Unit) =>
  some true) (fun r => some r) out5862)
def M.s_DrawMoveRegion (x5905 : List Int) : Option ((List Region) × Int × Int) :=
  Option.bind (M.s_l1Cur_regions (⟨x5905, 0, 0⟩ : l1Cur)) fun r5920 =>
  Option.bind (M.s_l1Cur_pick (⟨x5905, r5920.2.1, r5920.2.2⟩ : l1Cur) (w64 ((r5920.1.length : Int) + 1))) fun r5929 =>
  Option.bind (M.s_l1Cur_pick (⟨x5905, r5929.2.1, r5929.2.2⟩ : l1Cur) 20) fun r5933 =>
  Option.bind (M.s_l1Cur_among (⟨x5905, r5933.2.1, r5933.2.2⟩ : l1Cur) [0, 4, 4096, 32768, 65532, 61440, (-4), 65536]) fun r5944 =>
  some (r5920.1, w64 (r5929.1 - (w64 (r5933.1.tdiv 19))), r5944.1)
def M.i_MoveRegion (x5957 : List Region) (x5962 : Int) (x5963 : Int) : Option ((List Region) × Bool) :=
  Option.bind (α := Bool) (Option.bind (M.i_IsMap x5957) fun r5981 =>
  bif !r5981 then some true
  else (Option.bind (M.i_inside x5962 0 (w64 ((x5957.length : Int) - 1))) fun r5986 =>
  some (!r5986))) fun o5978 =>
  bif o5978 then some (([] : List Region), false)
  else (Option.bind (M.slices_Clone_75 x5957) fun r5996 =>
  Option.bind (gxIdx r5996 x5962) fun y6005 =>
  Option.bind (M.i_asMap (r5996.set x5962.toNat (⟨x5963, y6005.Size, y6005.Kind, y6005.Unit⟩ : Region))) fun r6010 =>
  some (r6010.1, r6010.2))
def M.s_MoveRegion (x6028 : List Region) (x6033 : Int) (x6034 : Int) : Option ((List Region) × Bool) :=
  Option.bind (α := Bool) (Option.bind (M.s_l17Good x6028) fun r6052 =>
  bif !r6052 then some true
  else (Option.bind (M.s_l1In x6033 0 (w64 ((x6028.length : Int) - 1))) fun r6057 =>
  some (!r6057))) fun o6049 =>
  bif o6049 then some (([] : List Region), false)
  else (Option.bind (gxIdx x6028 x6033) fun y6073 =>
  Option.bind (gxSlice x6028 0 x6033) fun ys6089 =>
  Option.bind (gxApp 32 ([] : List Region) ys6089) fun ap6091 =>
  Option.bind (gxSlice x6028 (w64 (x6033 + 1)) (x6028.length : Int)) fun ys6097 =>
  Option.bind (gxApp 32 ap6091 ys6097) fun ap6099 =>
  Option.bind (M.s_l17Add ap6099 (⟨x6034, y6073.Size, y6073.Kind, y6073.Unit⟩ : Region)) fun r6152 =>
  Option.bind (M.s_l17Good r6152) fun r6161 =>
  bif !r6161 then some (([] : List Region), false)
  else some (r6152, true))
def M.i_findRegion_1 (x6228 : Region) (x6229 : Int) : Option (Bool) :=
  Option.bind (M.i_inside x6229 x6228.Base (w64 ((w64 (x6228.Base + x6228.Size)) - 1))) fun r6237 =>
  some r6237
def M.slices_IndexFunc_87__i_findRegion_1 (x6217 : List Region) (x6222 : Int) : Option (Int) :=
  Option.bind (whileM (σ := Int) (ρ := (Unit) ⊕ (Int)) (fun s6253 =>
    bif decide (s6253 < (x6217.length : Int)) then (Option.bind (gxIdx x6217 s6253) fun y6265 =>
    Option.bind (M.i_findRegion_1 y6265 x6222) fun r6266 =>
    bif r6266 then some (.inr (.inr s6253))
    else some (.inl (w64 (s6253 + 1))))
    else some (.inr (.inl ()))) gxFuel 0) fun out6260 => Sum.elim (fun (o6263 : Unit) =>
  some (-1)) (fun r => some r) out6260
def M.i_findRegion (x6207 : List Region) (x6212 : Int) : Option (Int) :=
  Option.bind (M.slices_IndexFunc_87__i_findRegion_1 x6207 x6212) fun r6275 =>
  some r6275
def M.i_FindRegion (x6201 : List Region) (x6206 : Int) : Option (Int × Bool) :=
  Option.bind (M.i_findRegion x6201 x6206) fun r6279 =>
  Option.bind (α := Bool) (Option.bind (M.i_IsMap x6201) fun r6291 =>
  bif !r6291 then some true
  else some (decide (r6279 < 0))) fun o6288 =>
  bif o6288 then some (0, false)
  else some (r6279, true)
def M.s_DrawIsMap (x6388 : List Int) : Option ((List Region)) :=
  Option.bind (M.s_l1Cur_regions (⟨x6388, 0, 0⟩ : l1Cur)) fun r6403 =>
  some r6403.1
def M.s_DrawFreeSpace (x6378 : List Int) : Option ((List Region)) :=
  Option.bind (M.s_DrawIsMap x6378) fun r6412 =>
  some r6412
def M.s_FreeSpace (x6434 : List Region) : Option (Int × Bool) :=
  Option.bind (M.s_l17Good x6434) fun r6439 =>
  bif !r6439 then some (0, false)
  else (Option.bind (whileM (σ := Int × Int) (ρ := Int) (fun s6448 =>
    bif decide (s6448.2 < (x6434.length : Int)) then (Option.bind (gxIdx x6434 s6448.2) fun y6460 =>
    some (.inl (w64 (s6448.1 - y6460.Size), w64 (s6448.2 + 1))))
    else some (.inr s6448.1)) gxFuel (65536, 0)) fun out6455 =>
  some (out6455, true))
def M.l_FnRegions (x1 : List Int) : Option (Bool) :=
  Option.bind (M.l_rBig x1) fun r11 =>
  bif r11 then some true
  else (Option.bind (M.s_DrawPlaceRegion x1) fun r1850 =>
  Option.bind (M.i_PlaceRegion r1850.1 r1850.2) fun r5334 =>
  Option.bind (M.s_PlaceRegion r1850.1 r1850.2) fun r5430 =>
  Option.bind (α := Bool) (bif r5334.1 != r5430.1 then some true
  else some (!(r5334.2 == r5430.2))) fun o5435 =>
  bif o5435 then some false
  else (Option.bind (α := (Unit) ⊕ (Bool)) (bif r5334.2 then (Option.bind (M.i_AddRegion r1850.1 (⟨r5334.1, r1850.2, 0, 0⟩ : Region)) fun r5671 =>
  Option.bind (M.i_FreeSpace r1850.1) fun r5680 =>
  Option.bind (M.i_FreeSpace r5671.1) fun r5684 =>
  Option.bind (α := Bool) (bif !r5671.2 then some true
  else (bif !r5680.2 then some true
  else (bif !r5684.2 then some true
  else (bif (w64 (r5680.1 - r5684.1)) != r1850.2 then some true
  else (Option.bind (M.i_IsMap r5671.1) fun r5703 =>
  some (!r5703)))))) fun o5696 =>
  bif o5696 then some (.inr false)
  else (Option.bind (whileM (σ := Int) (ρ := (Unit) ⊕ (Bool)) (fun s5734 =>
    bif decide (s5734 < r5334.1) then (Option.bind (M.i_AddRegion r1850.1 (⟨s5734, r1850.2, 0, 0⟩ : Region)) fun r5746 =>
    bif r5746.2 then some (.inr (.inr false))
    else some (.inl (w64 (s5734 + r1850.2))))
    else some (.inr (.inl ()))) gxFuel 0) fun out5741 => Sum.elim (fun (o5744 : Unit) =>
  some (.inl ())) (fun r => some (.inr r)) out5741))
  else some (.inl ())) fun out5669 => Sum.elim (fun (o5666 : Unit) =>
  Option.bind (M.s_DrawAddRegion x1) fun r5798 =>
  Option.bind (M.i_AddRegion r5798.1 r5798.2) fun r5813 =>
  Option.bind (M.s_AddRegion r5798.1 r5798.2) fun r5822 =>
  Option.bind (α := Bool) (bif !(r5813.2 == r5822.2) then some true
  else (Option.bind (M.l_rRegions r5813.1 r5822.1) fun r5890 =>
  bif !r5890 then some true
  else (bif r5813.2 then (Option.bind (M.i_IsRegion r5798.2) fun r5896 =>
  some (!r5896))
  else some false))) fun o5886 =>
  bif o5886 then some false
  else (Option.bind (M.s_DrawMoveRegion x1) fun r5948 =>
  Option.bind (M.i_MoveRegion r5948.1 r5948.2.1 r5948.2.2) fun r6019 =>
  Option.bind (M.s_MoveRegion r5948.1 r5948.2.1 r5948.2.2) fun r6173 =>
  Option.bind (α := Bool) (bif !(r6019.2 == r6173.2) then some true
  else (Option.bind (M.l_rRegions r6019.1 r6173.1) fun r6191 =>
  some (!r6191))) fun o6187 =>
  bif o6187 then some false
  else (Option.bind (α := (Unit) ⊕ (Bool)) (bif r6019.2 then (Option.bind (M.i_FindRegion r6019.1 r5948.2.2) fun r6340 =>
  Option.bind (gxIdx r5948.1 r5948.2.1) fun y6344 =>
  Option.bind (M.i_MoveRegion r6019.1 r6340.1 y6344.Base) fun r6345 =>
  Option.bind (α := Bool) (bif !r6340.2 then some true
  else (bif !r6345.2 then some true
  else (Option.bind (M.l_rRegions r6345.1 r5948.1) fun r6365 =>
  some (!r6365)))) fun o6360 =>
  bif o6360 then some (.inr false)
  else some (.inl ()))
  else some (.inl ())) fun out6338 => Sum.elim (fun (o6335 : Unit) =>
  Option.bind (M.s_DrawFreeSpace x1) fun r6421 =>
  Option.bind (M.i_FreeSpace r6421) fun r6430 =>
  Option.bind (M.s_FreeSpace r6421) fun r6465 =>
  Option.bind (α := Bool) (bif r6430.1 == r6465.1 then some (r6430.2 == r6465.2)
  else some false) fun o6470 =>
  some o6470) (fun r => some r) out6338))) (fun r => some r) out5669))
end Go.Proofs.Ytphinfkojhecdaa
