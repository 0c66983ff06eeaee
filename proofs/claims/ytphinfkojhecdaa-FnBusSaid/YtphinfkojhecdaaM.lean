/- The models of the functions, printed by program: what each computes, in plain Lean. -/
import Derived.Test.YtphinfkojhecdaaGxG
set_option linter.unusedVariables false
set_option maxRecDepth 100000
set_option maxHeartbeats 4000000
namespace Go.Proofs.Ytphinfkojhecdaa
open Go.Gx
structure Bucket where
  Guest : Int
  Rate : Int
  Burst : Int
  Have : Int
  Tick : Int
def encBucket : Enc Bucket := ⟨fun x => [.int .i64 x.Guest, .int .i64 x.Rate, .int .i64 x.Burst, .int .i64 x.Have, .int .i64 x.Tick], 5, fun _ => rfl, by simp [Value.oneCell']⟩
structure Access where
  Address : Int
  Width : Int
  Store : Bool
def encAccess : Enc Access := ⟨fun x => [.int .i64 x.Address, .int .i64 x.Width, .bool x.Store], 3, fun _ => rfl, by simp [Value.oneCell']⟩
structure Region where
  Base : Int
  Size : Int
  Kind : Int
  Unit : Int
def encRegion : Enc Region := ⟨fun x => [.int .i64 x.Base, .int .i64 x.Size, .int .i64 x.Kind, .int .i64 x.Unit], 4, fun _ => rfl, by simp [Value.oneCell']⟩
structure l1Cur where
  code : List Int
  at_ : Int
  seed : Int
def M.l_toBucket (x6 : Bucket) : Option (Bucket) :=
  some x6
def M.s_l1In (x45 : Int) (x46 : Int) (x47 : Int) : Option (Bool) :=
  Option.bind (α := Bool) (bif decide (x45 ≥ x46) then some (decide (x45 ≤ x47))
  else some false) fun o49 =>
  some o49
def M.s_l11Tick (x77 : Int) : Option (Bool) :=
  Option.bind (M.s_l1In x77 0 100000) fun r78 =>
  some r78
def M.s_l23One (x40 : Bucket) : Option (Bool) :=
  Option.bind (α := Bool) (Option.bind (M.s_l1In x40.Guest 1 4) fun r89 =>
  bif r89 then (Option.bind (M.s_l1In x40.Rate 0 100) fun r94 =>
  bif r94 then (Option.bind (M.s_l1In x40.Burst 1 1000) fun r99 =>
  bif r99 then (Option.bind (M.s_l1In x40.Have 0 x40.Burst) fun r104 =>
  bif r104 then (Option.bind (M.s_l11Tick x40.Tick) fun r109 =>
  some r109)
  else some false)
  else some false)
  else some false)
  else some false) fun o86 =>
  some o86
def M.s_IsBucket (x35 : Bucket) : Option (Bool) :=
  Option.bind (M.s_l23One x35) fun r117 =>
  some r117
def M.i_inside (x135 : Int) (x136 : Int) (x137 : Int) : Option (Bool) :=
  Option.bind (α := Bool) (bif decide (x135 ≥ x136) then some (decide (x135 ≤ x137))
  else some false) fun o139 =>
  some o139
def M.i_isGuest (x134 : Int) : Option (Bool) :=
  Option.bind (M.i_inside x134 1 4) fun r147 =>
  some r147
def M.i_isTick (x171 : Int) : Option (Bool) :=
  Option.bind (M.i_inside x171 0 100000) fun r172 =>
  some r172
def M.i_IsBucket (x129 : Bucket) : Option (Bool) :=
  Option.bind (α := Bool) (Option.bind (M.i_isGuest x129.Guest) fun r183 =>
  bif r183 then (Option.bind (M.i_inside x129.Rate 0 100) fun r188 =>
  bif r188 then (Option.bind (M.i_inside x129.Burst 1 1000) fun r193 =>
  bif r193 then (Option.bind (M.i_inside x129.Have 0 x129.Burst) fun r198 =>
  bif r198 then (Option.bind (M.i_isTick x129.Tick) fun r203 =>
  some r203)
  else some false)
  else some false)
  else some false)
  else some false) fun o180 =>
  some o180
def M.l_FnExactIsBucket (x1 : Bucket) : Option (Bool) :=
  Option.bind (M.l_toBucket x1) fun r31 =>
  Option.bind (M.s_IsBucket r31) fun r121 =>
  Option.bind (M.l_toBucket x1) fun r125 =>
  Option.bind (M.i_IsBucket r125) fun r211 =>
  bif !(r211 == r121) then some false
  else some true
def M.l_szRegionS (x226 : List Region) (x231 : Int) : Option (Int) :=
  bif decide ((w64 (x231 - (x226.length : Int))) < 0) then some (-1)
  else some (w64 (x231 - (x226.length : Int)))
def M.l_toRegion (x260 : Region) : Option (Region) :=
  some x260
def M.l_toRegionS (x240 : List Region) : Option ((List Region)) :=
  Option.bind (gxMake 32 (x240.length : Int) ((⟨0, 0, 0, 0⟩ : Region) : Region)) fun mk250 =>
  Option.bind (whileM (σ := Int × List Region) (ρ := List Region) (fun s305 =>
    bif decide (s305.1 < (x240.length : Int)) then (Option.bind (gxIdx x240 s305.1) fun y321 =>
    Option.bind (M.l_toRegion y321) fun r322 =>
    Option.bind (gxIdx s305.2 s305.1) fun y326 =>
    some (.inl (w64 (s305.1 + 1), (s305.2.set s305.1.toNat r322))))
    else some (.inr s305.2)) gxFuel (0, mk250)) fun out312 =>
  some out312
def M.l_toAccess (x341 : Access) : Option (Access) :=
  some x341
def M.s_l17Size (x385 : Int) : Option (Bool) :=
  Option.bind (α := Bool) (Option.bind (M.s_l1In x385 4 4096) fun r394 =>
  bif r394 then some ((gxAnd .i64 x385 (w64 (x385 - 1))) == 0)
  else some false) fun o391 =>
  some o391
def M.s_l17Address (x408 : Int) : Option (Bool) :=
  Option.bind (M.s_l1In x408 0 65535) fun r409 =>
  some r409
def M.s_l17One (x380 : Region) : Option (Bool) :=
  Option.bind (α := Bool) (Option.bind (M.s_l17Size x380.Size) fun r432 =>
  bif r432 then (Option.bind (M.s_l17Address x380.Base) fun r437 =>
  bif r437 then (Option.bind (gxRem x380.Base x380.Size) fun q442 =>
  bif q442 == 0 then (Option.bind (M.s_l1In x380.Kind 0 3) fun r444 =>
  bif r444 then (Option.bind (M.s_l1In x380.Unit 0 15) fun r449 =>
  some r449)
  else some false)
  else some false)
  else some false)
  else some false) fun o429 =>
  some o429
def M.s_l17Good (x373 : List Region) : Option (Bool) :=
  Option.bind (whileM (σ := Int) (ρ := (Unit) ⊕ (Bool)) (fun s537 =>
    bif decide (s537 < (x373.length : Int)) then (Option.bind (α := Bool) (Option.bind (gxIdx x373 s537) fun y568 =>
    Option.bind (M.s_l17One y568) fun r569 =>
    bif !r569 then some true
    else (bif decide (s537 > 0) then (Option.bind (gxIdx x373 (w64 (s537 - 1))) fun y577 =>
    Option.bind (gxIdx x373 (w64 (s537 - 1))) fun y578 =>
    Option.bind (gxIdx x373 s537) fun y579 =>
    some (decide ((w64 (y577.Base + y578.Size)) > y579.Base)))
    else some false)) fun o565 =>
    bif o565 then some (.inr (.inr false))
    else some (.inl (w64 (s537 + 1))))
    else some (.inr (.inl ()))) gxFuel 0) fun out544 => Sum.elim (fun (o547 : Unit) =>
  some (decide ((x373.length : Int) ≤ 6))) (fun r => some r) out544
def M.s_l17Access (x598 : Access) : Option (Bool) :=
  Option.bind (α := Bool) (Option.bind (M.s_l17Address x598.Address) fun r613 =>
  bif r613 then (bif x598.Width == 1 then some true
  else (bif x598.Width == 2 then some true
  else some (x598.Width == 4)))
  else some false) fun o610 =>
  some o610
def M.s_l17Find (x645 : List Region) (x650 : Int) : Option (Int) :=
  Option.bind (whileM (σ := Int) (ρ := (Unit) ⊕ (Int)) (fun s673 =>
    bif decide (s673 < (x645.length : Int)) then (Option.bind (gxIdx x645 s673) fun y685 =>
    Option.bind (gxIdx x645 s673) fun y686 =>
    Option.bind (gxIdx x645 s673) fun y687 =>
    Option.bind (M.s_l1In x650 y685.Base (w64 ((w64 (y686.Base + y687.Size)) - 1))) fun r688 =>
    bif r688 then some (.inr (.inr s673))
    else some (.inl (w64 (s673 + 1))))
    else some (.inr (.inl ()))) gxFuel 0) fun out680 => Sum.elim (fun (o683 : Unit) =>
  some (-1)) (fun r => some r) out680
def M.s_l17Allows (x707 : Region) (x708 : Int) : Option (Bool) :=
  Option.bind (α := Bool) (bif x707.Kind == 3 then some true
  else (Option.bind (gxShl 1 (IntKind.u64.wrap x707.Kind)) fun q719 =>
  some (x708 == q719))) fun o715 =>
  some o715
def M.s_RouteAccess (x363 : List Region) (x368 : Access) : Option (Int × Int × Int × Bool) :=
  Option.bind (α := Bool) (Option.bind (M.s_l17Good x363) fun r631 =>
  bif !r631 then some true
  else (Option.bind (M.s_l17Access x368) fun r636 =>
  some (!r636))) fun o628 =>
  bif o628 then some (0, 0, 0, false)
  else (Option.bind (M.s_l17Find x363 x368.Address) fun r699 =>
  Option.bind (gxRem x368.Address x368.Width) fun q703 =>
  bif q703 != 0 then some ((-1), 0, 1, true)
  else (bif decide (r699 < 0) then some ((-1), 0, 2, true)
  else (Option.bind (gxIdx x363 r699) fun y706 =>
  Option.bind (M.s_l17Allows y706 x368.Width) fun r724 =>
  bif !r724 then some ((-1), 0, 3, true)
  else (Option.bind (gxIdx x363 r699) fun y731 =>
  Option.bind (gxIdx x363 r699) fun y732 =>
  some (y731.Unit, w64 (x368.Address - y732.Base), 0, true)))))
def M.i_isSize (x835 : Int) : Option (Bool) :=
  Option.bind (α := Bool) (Option.bind (M.i_inside x835 4 4096) fun r844 =>
  bif r844 then some ((gxAnd .i64 x835 (w64 (x835 - 1))) == 0)
  else some false) fun o841 =>
  some o841
def M.i_IsRegion (x830 : Region) : Option (Bool) :=
  Option.bind (α := Bool) (Option.bind (M.i_isSize x830.Size) fun r877 =>
  bif r877 then (Option.bind (M.i_inside x830.Base 0 (w64 (65536 - x830.Size))) fun r882 =>
  bif r882 then (Option.bind (gxRem x830.Base x830.Size) fun q887 =>
  bif q887 == 0 then (Option.bind (M.i_inside x830.Kind 0 3) fun r889 =>
  bif r889 then (Option.bind (M.i_inside x830.Unit 0 15) fun r894 =>
  some r894)
  else some false)
  else some false)
  else some false)
  else some false) fun o874 =>
  some o874
def M.i_IsMap (x817 : List Region) : Option (Bool) :=
  Option.bind (whileM (σ := Int) (ρ := (Unit) ⊕ (Bool)) (fun s982 =>
    bif decide (s982 < (x817.length : Int)) then (Option.bind (gxIdx x817 s982) fun y994 =>
    Option.bind (α := Bool) (Option.bind (M.i_IsRegion y994) fun r1018 =>
    bif !r1018 then some true
    else (bif decide (s982 > 0) then (Option.bind (gxIdx x817 (w64 (s982 - 1))) fun y1026 =>
    Option.bind (gxIdx x817 (w64 (s982 - 1))) fun y1027 =>
    some (decide ((w64 (y1026.Base + y1027.Size)) > y994.Base)))
    else some false)) fun o1015 =>
    bif o1015 then some (.inr (.inr false))
    else some (.inl (w64 (s982 + 1))))
    else some (.inr (.inl ()))) gxFuel 0) fun out989 => Sum.elim (fun (o992 : Unit) =>
  some (decide ((x817.length : Int) ≤ 6))) (fun r => some r) out989
def M.i_isWord16 (x1051 : Int) : Option (Bool) :=
  Option.bind (M.i_inside x1051 0 65535) fun r1052 =>
  some r1052
def M.i_isWidth (x1061 : Int) : Option (Bool) :=
  Option.bind (α := Bool) (bif x1061 == 1 then some true
  else (bif x1061 == 2 then some true
  else some (x1061 == 4))) fun o1064 =>
  some o1064
def M.i_isAccess (x1046 : Access) : Option (Bool) :=
  Option.bind (α := Bool) (Option.bind (M.i_isWord16 x1046.Address) fun r1080 =>
  bif r1080 then (Option.bind (M.i_isWidth x1046.Width) fun r1085 =>
  some r1085)
  else some false) fun o1077 =>
  some o1077
def M.i_findRegion_1 (x1135 : Region) (x1136 : Int) : Option (Bool) :=
  Option.bind (M.i_inside x1136 x1135.Base (w64 ((w64 (x1135.Base + x1135.Size)) - 1))) fun r1144 =>
  some r1144
def M.slices_IndexFunc_87__i_findRegion_1 (x1124 : List Region) (x1129 : Int) : Option (Int) :=
  Option.bind (whileM (σ := Int) (ρ := (Unit) ⊕ (Int)) (fun s1160 =>
    bif decide (s1160 < (x1124.length : Int)) then (Option.bind (gxIdx x1124 s1160) fun y1172 =>
    Option.bind (M.i_findRegion_1 y1172 x1129) fun r1173 =>
    bif r1173 then some (.inr (.inr s1160))
    else some (.inl (w64 (s1160 + 1))))
    else some (.inr (.inl ()))) gxFuel 0) fun out1167 => Sum.elim (fun (o1170 : Unit) =>
  some (-1)) (fun r => some r) out1167
def M.i_findRegion (x1114 : List Region) (x1119 : Int) : Option (Int) :=
  Option.bind (M.slices_IndexFunc_87__i_findRegion_1 x1114 x1119) fun r1182 =>
  some r1182
def M.i_allows (x1194 : Region) (x1195 : Int) : Option (Bool) :=
  Option.bind (α := Bool) (bif x1194.Kind == 3 then some true
  else (Option.bind (gxShl 1 x1194.Kind) fun q1206 =>
  some (x1195 == q1206))) fun o1202 =>
  some o1202
def M.i_RouteAccess (x807 : List Region) (x812 : Access) : Option (Int × Int × Int × Bool) :=
  Option.bind (α := Bool) (Option.bind (M.i_IsMap x807) fun r1100 =>
  bif !r1100 then some true
  else (Option.bind (M.i_isAccess x812) fun r1105 =>
  some (!r1105))) fun o1097 =>
  bif o1097 then some (0, 0, 0, false)
  else (Option.bind (M.i_findRegion x807 x812.Address) fun r1186 =>
  Option.bind (gxRem x812.Address x812.Width) fun q1190 =>
  bif q1190 != 0 then some ((-1), 0, 1, true)
  else (bif decide (r1186 < 0) then some ((-1), 0, 2, true)
  else (Option.bind (gxIdx x807 r1186) fun y1193 =>
  Option.bind (M.i_allows y1193 x812.Width) fun r1211 =>
  bif !r1211 then some ((-1), 0, 3, true)
  else (Option.bind (gxIdx x807 r1186) fun y1218 =>
  Option.bind (gxIdx x807 r1186) fun y1219 =>
  some (y1218.Unit, w64 (x812.Address - y1219.Base), 0, true)))))
def M.l_eqRegion (x1263 : Region) (x1264 : Region) : Option (Bool) :=
  bif x1263.Base != x1264.Base then some false
  else (bif x1263.Size != x1264.Size then some false
  else (bif x1263.Kind != x1264.Kind then some false
  else (bif x1263.Unit != x1264.Unit then some false
  else some true)))
def M.l_eqRegionS (x1249 : List Region) (x1254 : List Region) : Option (Bool) :=
  bif (x1249.length : Int) != (x1254.length : Int) then some false
  else (Option.bind (whileM (σ := Int) (ρ := (Unit) ⊕ (Bool)) (fun s1294 =>
    bif decide (s1294 < (x1249.length : Int)) then (Option.bind (gxIdx x1249 s1294) fun y1306 =>
    Option.bind (gxIdx x1254 s1294) fun y1307 =>
    Option.bind (M.l_eqRegion y1306 y1307) fun r1308 =>
    bif !r1308 then some (.inr (.inr false))
    else some (.inl (w64 (s1294 + 1))))
    else some (.inr (.inl ()))) gxFuel 0) fun out1301 => Sum.elim (fun (o1304 : Unit) =>
  some true) (fun r => some r) out1301)
def M.l_FnExactRouteAccess (x216 : List Region) (x221 : Access) : Option (Bool) :=
  Option.bind (M.l_szRegionS x216 1048576) fun r233 =>
  bif decide (r233 < 0) then some true
  else (Option.bind (M.l_toRegionS x216) fun r335 =>
  Option.bind (M.l_toAccess x221) fun r362 =>
  Option.bind (M.s_RouteAccess r335 r362) fun r735 =>
  Option.bind (M.l_toRegionS x216) fun r794 =>
  Option.bind (M.l_toAccess x221) fun r803 =>
  Option.bind (M.i_RouteAccess r794 r803) fun r1222 =>
  Option.bind (α := Bool) (bif r1222.1 != r735.1 then some true
  else (bif r1222.2.1 != r735.2.1 then some true
  else (bif r1222.2.2.1 != r735.2.2.1 then some true
  else some (!(r1222.2.2.2 == r735.2.2.2))))) fun o1229 =>
  bif o1229 then some false
  else (Option.bind (M.l_toRegionS x216) fun r1240 =>
  Option.bind (M.l_eqRegionS r794 r1240) fun r1319 =>
  bif !r1319 then some false
  else some true))
def M.s_UnitsBetween (x1345 : List Region) (x1350 : Int) (x1351 : Int) : Option ((List Int) × Bool) :=
  Option.bind (α := Bool) (Option.bind (M.s_l17Good x1345) fun r1382 =>
  bif !r1382 then some true
  else (Option.bind (M.s_l17Address x1350) fun r1387 =>
  bif !r1387 then some true
  else (Option.bind (M.s_l17Address x1351) fun r1392 =>
  bif !r1392 then some true
  else some (decide (x1350 > x1351))))) fun o1379 =>
  bif o1379 then some (([] : List Int), false)
  else (Option.bind (whileM (σ := List Int × Int) (ρ := List Int) (fun s1529 =>
    bif decide (s1529.2 < (x1345.length : Int)) then (Option.bind (gxIdx x1345 s1529.2) fun y1551 =>
    Option.bind (α := Bool) (bif decide (y1551.Base ≤ x1351) then some (decide ((w64 (y1551.Base + y1551.Size)) > x1350))
    else some false) fun o1559 =>
    Option.bind (α := List Int) (bif o1559 then (Option.bind (gxApp 8 s1529.1 [y1551.Unit]) fun ap1599 =>
    some ap1599)
    else some s1529.1) fun o1583 =>
    some (.inl (o1583, w64 (s1529.2 + 1))))
    else some (.inr s1529.1)) gxFuel (([] : List Int), 0)) fun out1536 =>
  some (out1536, true))
def M.i_UnitsBetween (x1633 : List Region) (x1638 : Int) (x1639 : Int) : Option ((List Int) × Bool) :=
  Option.bind (α := Bool) (Option.bind (M.i_IsMap x1633) fun r1663 =>
  bif !r1663 then some true
  else (Option.bind (M.i_isWord16 x1638) fun r1668 =>
  bif !r1668 then some true
  else (Option.bind (M.i_isWord16 x1639) fun r1673 =>
  bif !r1673 then some true
  else some (decide (x1638 > x1639))))) fun o1660 =>
  bif o1660 then some (([] : List Int), false)
  else (Option.bind (whileM (σ := List Int × Int) (ρ := List Int) (fun s1800 =>
    bif decide (s1800.2 < (x1633.length : Int)) then (Option.bind (gxIdx x1633 s1800.2) fun y1822 =>
    Option.bind (α := List Int) (bif decide ((gxMax x1638 y1822.Base) ≤ (gxMin x1639 (w64 ((w64 (y1822.Base + y1822.Size)) - 1)))) then (Option.bind (gxApp 8 s1800.1 [y1822.Unit]) fun ap1861 =>
    some ap1861)
    else some s1800.1) fun o1845 =>
    some (.inl (o1845, w64 (s1800.2 + 1))))
    else some (.inr s1800.1)) gxFuel (([] : List Int), 0)) fun out1807 =>
  some (out1807, true))
def M.l_eqIntS (x1886 : List Int) (x1891 : List Int) : Option (Bool) :=
  bif (x1886.length : Int) != (x1891.length : Int) then some false
  else (Option.bind (whileM (σ := Int) (ρ := (Unit) ⊕ (Bool)) (fun s1909 =>
    bif decide (s1909 < (x1886.length : Int)) then (Option.bind (gxIdx x1886 s1909) fun y1921 =>
    Option.bind (gxIdx x1891 s1909) fun y1922 =>
    bif y1921 != y1922 then some (.inr (.inr false))
    else some (.inl (w64 (s1909 + 1))))
    else some (.inr (.inl ()))) gxFuel 0) fun out1916 => Sum.elim (fun (o1919 : Unit) =>
  some true) (fun r => some r) out1916)
def M.l_markRegionS (x1962 : List Region) (x1968 : Int) : Option (Int × (List Region)) :=
  Option.bind (whileM (σ := Int × Int × List Region) (ρ := Int × List Region) (fun s2015 =>
    bif decide (s2015.2.1 < (s2015.2.2.length : Int)) then (Option.bind (gxIdx s2015.2.2 s2015.2.1) fun y2033 =>
    Option.bind (gxIdx (s2015.2.2.set s2015.2.1.toNat (⟨s2015.1, y2033.Size, y2033.Kind, y2033.Unit⟩ : Region)) s2015.2.1) fun y2038 =>
    Option.bind (gxIdx ((s2015.2.2.set s2015.2.1.toNat (⟨s2015.1, y2033.Size, y2033.Kind, y2033.Unit⟩ : Region)).set s2015.2.1.toNat (⟨y2038.Base, w64 (s2015.1 + 1), y2038.Kind, y2038.Unit⟩ : Region)) s2015.2.1) fun y2043 =>
    Option.bind (gxIdx (((s2015.2.2.set s2015.2.1.toNat (⟨s2015.1, y2033.Size, y2033.Kind, y2033.Unit⟩ : Region)).set s2015.2.1.toNat (⟨y2038.Base, w64 (s2015.1 + 1), y2038.Kind, y2038.Unit⟩ : Region)).set s2015.2.1.toNat (⟨y2043.Base, y2043.Size, w64 ((w64 (s2015.1 + 1)) + 1), y2043.Unit⟩ : Region)) s2015.2.1) fun y2048 =>
    some (.inl (w64 ((w64 ((w64 ((w64 (s2015.1 + 1)) + 1)) + 1)) + 1), w64 (s2015.2.1 + 1), ((((s2015.2.2.set s2015.2.1.toNat (⟨s2015.1, y2033.Size, y2033.Kind, y2033.Unit⟩ : Region)).set s2015.2.1.toNat (⟨y2038.Base, w64 (s2015.1 + 1), y2038.Kind, y2038.Unit⟩ : Region)).set s2015.2.1.toNat (⟨y2043.Base, y2043.Size, w64 ((w64 (s2015.1 + 1)) + 1), y2043.Unit⟩ : Region)).set s2015.2.1.toNat (⟨y2048.Base, y2048.Size, y2048.Kind, w64 ((w64 ((w64 (s2015.1 + 1)) + 1)) + 1)⟩ : Region)))))
    else some (.inr (s2015.1, s2015.2.2))) gxFuel (x1968, 0, x1962)) fun out2022 =>
  some (out2022.1, out2022.2)
def M.l_markIntS (x2084 : List Int) (x2090 : Int) : Option (Int × (List Int)) :=
  Option.bind (whileM (σ := Int × Int × List Int) (ρ := Int × List Int) (fun s2107 =>
    bif decide (s2107.2.1 < (s2107.2.2.length : Int)) then (Option.bind (gxIdx s2107.2.2 s2107.2.1) fun y2125 =>
    some (.inl (w64 (s2107.1 + 1), w64 (s2107.2.1 + 1), (s2107.2.2.set s2107.2.1.toNat s2107.1))))
    else some (.inr (s2107.1, s2107.2.2))) gxFuel (x2090, 0, x2084)) fun out2114 =>
  some (out2114.1, out2114.2)
def M.l_heldIntS (x2141 : List Int) (x2146 : Int) : Option (Int) :=
  Option.bind (whileM (σ := Int × Int) (ρ := (Int) ⊕ (Int)) (fun s2153 =>
    bif decide (s2153.2 < (x2141.length : Int)) then (Option.bind (gxIdx x2141 s2153.2) fun y2165 =>
    bif y2165 != s2153.1 then some (.inr (.inr (-1)))
    else some (.inl (w64 (s2153.1 + 1), w64 (s2153.2 + 1))))
    else some (.inr (.inl s2153.1))) gxFuel (x2146, 0)) fun out2160 => Sum.elim (fun (o2163 : Int) =>
  some o2163) (fun r => some r) out2160
def M.l_FnExactUnitsBetween (x1324 : List Region) (x1329 : Int) (x1330 : Int) : Option (Bool) :=
  Option.bind (M.l_szRegionS x1324 1048576) fun r1331 =>
  bif decide (r1331 < 0) then some true
  else (Option.bind (M.l_toRegionS x1324) fun r1336 =>
  Option.bind (M.s_UnitsBetween r1336 x1329 x1330) fun r1615 =>
  Option.bind (M.l_toRegionS x1324) fun r1624 =>
  Option.bind (M.i_UnitsBetween r1624 x1329 x1330) fun r1877 =>
  Option.bind (α := Bool) (Option.bind (M.l_eqIntS r1877.1 r1615.1) fun r1938 =>
  bif !r1938 then some true
  else some (!(r1877.2 == r1615.2))) fun o1935 =>
  bif o1935 then some false
  else (Option.bind (M.l_toRegionS x1324) fun r1948 =>
  Option.bind (M.l_eqRegionS r1624 r1948) fun r1957 =>
  bif !r1957 then some false
  else (Option.bind (M.l_markRegionS r1624 1) fun r2057 =>
  Option.bind (α := Bool) (bif decide (r2057.1 < 0) then some true
  else (Option.bind (M.l_eqIntS r1877.1 r1615.1) fun r2074 =>
  bif !r2074 then some true
  else some (!(r1877.2 == r1615.2)))) fun o2070 =>
  bif o2070 then some false
  else (Option.bind (M.l_markIntS r1877.1 1) fun r2134 =>
  Option.bind (M.l_heldIntS r2134.2 1) fun r2171 =>
  bif decide (r2171 < 0) then some false
  else (bif r2171 != r2134.1 then some false
  else (Option.bind (M.l_toRegionS x1324) fun r2177 =>
  Option.bind (M.i_UnitsBetween r2177 x1329 x1330) fun r2186 =>
  Option.bind (α := Bool) (Option.bind (M.l_eqIntS r2186.1 r1615.1) fun r2203 =>
  bif !r2203 then some true
  else some (!(r2186.2 == r1615.2))) fun o2200 =>
  bif o2200 then some false
  else (Option.bind (M.l_heldIntS r2134.2 1) fun r2213 =>
  bif decide (r2213 < 0) then some false
  else (bif r2213 != r2134.1 then some false
  else some true))))))))
def M.s_SplitAccess (x2243 : List Region) (x2248 : Access) : Option ((List Access) × Bool) :=
  Option.bind (α := Bool) (Option.bind (M.s_l17Good x2243) fun r2284 =>
  bif !r2284 then some true
  else (Option.bind (M.s_l17Access x2248) fun r2289 =>
  bif !r2289 then some true
  else (Option.bind (gxRem x2248.Address x2248.Width) fun q2294 =>
  bif q2294 != 0 then some true
  else (Option.bind (M.s_l17Find x2243 x2248.Address) fun r2296 =>
  some (decide (r2296 < 0)))))) fun o2281 =>
  bif o2281 then some (([] : List Access), false)
  else (Option.bind (M.s_l17Find x2243 x2248.Address) fun r2305 =>
  Option.bind (gxIdx x2243 r2305) fun y2309 =>
  Option.bind (whileM (σ := Int) (ρ := (Unit) ⊕ ((List Access) × Bool)) (fun s2484 =>
    bif decide (s2484 ≥ 1) then (Option.bind (M.s_l17Allows y2309 s2484) fun r2496 =>
    bif !r2496 then some (.inl (w64 (s2484.tdiv 2)))
    else (Option.bind (whileM (σ := List Access × Int) (ρ := List Access) (fun s2538 =>
      bif decide (s2538.2 < x2248.Width) then (Option.bind (gxApp 24 s2538.1 [(⟨w64 (x2248.Address + s2538.2), s2484, x2248.Store⟩ : Access)]) fun ap2567 =>
      some (.inl (ap2567, w64 (s2538.2 + s2484))))
      else some (.inr s2538.1)) gxFuel (([] : List Access), 0)) fun out2545 =>
    some (.inr (.inr (out2545, true)))))
    else some (.inr (.inl ()))) gxFuel x2248.Width) fun out2491 => Sum.elim (fun (o2494 : Unit) =>
  some (([] : List Access), false)) (fun r => some r) out2491)
def M.i_SplitAccess (x2644 : List Region) (x2649 : Access) : Option ((List Access) × Bool) :=
  Option.bind (α := Bool) (Option.bind (M.i_IsMap x2644) fun r2673 =>
  bif !r2673 then some true
  else (Option.bind (M.i_isAccess x2649) fun r2678 =>
  bif !r2678 then some true
  else (Option.bind (gxRem x2649.Address x2649.Width) fun q2683 =>
  some (q2683 != 0)))) fun o2670 =>
  bif o2670 then some (([] : List Access), false)
  else (Option.bind (M.i_findRegion x2644 x2649.Address) fun r2690 =>
  bif decide (r2690 < 0) then some (([] : List Access), false)
  else (Option.bind (whileM (σ := Int) (ρ := Int) (fun s2736 =>
    Option.bind (α := Bool) (bif decide (s2736 > 0) then (Option.bind (gxIdx x2644 r2690) fun y2757 =>
    Option.bind (M.i_allows y2757 s2736) fun r2758 =>
    some (!r2758))
    else some false) fun o2753 =>
    bif o2753 then some (.inl (w64 (s2736.tdiv 2)))
    else some (.inr s2736)) gxFuel x2649.Width) fun out2743 =>
  bif out2743 == 0 then some (([] : List Access), false)
  else (Option.bind (whileM (σ := List Access × Int) (ρ := List Access) (fun s2817 =>
    bif decide (s2817.2 < x2649.Width) then (Option.bind (gxApp 24 s2817.1 [(⟨w64 (x2649.Address + s2817.2), out2743, x2649.Store⟩ : Access)]) fun ap2846 =>
    some (.inl (ap2846, w64 (s2817.2 + out2743))))
    else some (.inr s2817.1)) gxFuel (([] : List Access), 0)) fun out2824 =>
  some (out2824, true))))
def M.l_eqAccess (x2881 : Access) (x2882 : Access) : Option (Bool) :=
  bif x2881.Address != x2882.Address then some false
  else (bif x2881.Width != x2882.Width then some false
  else (bif !(x2881.Store == x2882.Store) then some false
  else some true))
def M.l_eqAccessS (x2867 : List Access) (x2872 : List Access) : Option (Bool) :=
  bif (x2867.length : Int) != (x2872.length : Int) then some false
  else (Option.bind (whileM (σ := Int) (ρ := (Unit) ⊕ (Bool)) (fun s2911 =>
    bif decide (s2911 < (x2867.length : Int)) then (Option.bind (gxIdx x2867 s2911) fun y2923 =>
    Option.bind (gxIdx x2872 s2911) fun y2924 =>
    Option.bind (M.l_eqAccess y2923 y2924) fun r2925 =>
    bif !r2925 then some (.inr (.inr false))
    else some (.inl (w64 (s2911 + 1))))
    else some (.inr (.inl ()))) gxFuel 0) fun out2918 => Sum.elim (fun (o2921 : Unit) =>
  some true) (fun r => some r) out2918)
def M.l_markAccessS (x2995 : List Access) (x3001 : Int) : Option (Int × (List Access)) :=
  Option.bind (whileM (σ := Int × Int × List Access) (ρ := Int × List Access) (fun s3038 =>
    bif decide (s3038.2.1 < (s3038.2.2.length : Int)) then (Option.bind (gxIdx s3038.2.2 s3038.2.1) fun y3056 =>
    Option.bind (gxIdx (s3038.2.2.set s3038.2.1.toNat (⟨s3038.1, y3056.Width, y3056.Store⟩ : Access)) s3038.2.1) fun y3061 =>
    Option.bind (gxIdx ((s3038.2.2.set s3038.2.1.toNat (⟨s3038.1, y3056.Width, y3056.Store⟩ : Access)).set s3038.2.1.toNat (⟨y3061.Address, w64 (s3038.1 + 1), y3061.Store⟩ : Access)) s3038.2.1) fun y3066 =>
    some (.inl (w64 ((w64 ((w64 (s3038.1 + 1)) + 1)) + 1), w64 (s3038.2.1 + 1), (((s3038.2.2.set s3038.2.1.toNat (⟨s3038.1, y3056.Width, y3056.Store⟩ : Access)).set s3038.2.1.toNat (⟨y3061.Address, w64 (s3038.1 + 1), y3061.Store⟩ : Access)).set s3038.2.1.toNat (⟨y3066.Address, y3066.Width, ((w64 ((w64 (s3038.1 + 1)) + 1)).tmod 3) == 0⟩ : Access)))))
    else some (.inr (s3038.1, s3038.2.2))) gxFuel (x3001, 0, x2995)) fun out3045 =>
  some (out3045.1, out3045.2)
def M.l_heldAccessS (x3082 : List Access) (x3087 : Int) : Option (Int) :=
  Option.bind (whileM (σ := Int × Int) (ρ := (Int) ⊕ (Int)) (fun s3102 =>
    bif decide (s3102.2 < (x3082.length : Int)) then (Option.bind (gxIdx x3082 s3102.2) fun y3114 =>
    bif y3114.Address != s3102.1 then some (.inr (.inr (-1)))
    else (Option.bind (gxIdx x3082 s3102.2) fun y3116 =>
    bif y3116.Width != (w64 (s3102.1 + 1)) then some (.inr (.inr (-1)))
    else (Option.bind (gxIdx x3082 s3102.2) fun y3118 =>
    bif !(y3118.Store == (((w64 ((w64 (s3102.1 + 1)) + 1)).tmod 3) == 0)) then some (.inr (.inr (-1)))
    else some (.inl (w64 ((w64 ((w64 (s3102.1 + 1)) + 1)) + 1), w64 (s3102.2 + 1))))))
    else some (.inr (.inl s3102.1))) gxFuel (x3087, 0)) fun out3109 => Sum.elim (fun (o3112 : Int) =>
  some o3112) (fun r => some r) out3109
def M.l_FnExactSplitAccess (x2219 : List Region) (x2224 : Access) : Option (Bool) :=
  Option.bind (M.l_szRegionS x2219 1048576) fun r2229 =>
  bif decide (r2229 < 0) then some true
  else (Option.bind (M.l_toRegionS x2219) fun r2236 =>
  Option.bind (M.l_toAccess x2224) fun r2242 =>
  Option.bind (M.s_SplitAccess r2236 r2242) fun r2583 =>
  Option.bind (M.l_toRegionS x2219) fun r2631 =>
  Option.bind (M.l_toAccess x2224) fun r2640 =>
  Option.bind (M.i_SplitAccess r2631 r2640) fun r2858 =>
  Option.bind (α := Bool) (Option.bind (M.l_eqAccessS r2858.1 r2583.1) fun r2944 =>
  bif !r2944 then some true
  else some (!(r2858.2 == r2583.2))) fun o2941 =>
  bif o2941 then some false
  else (Option.bind (M.l_toRegionS x2219) fun r2954 =>
  Option.bind (M.l_eqRegionS r2631 r2954) fun r2963 =>
  bif !r2963 then some false
  else (Option.bind (M.l_markRegionS r2631 1) fun r2968 =>
  Option.bind (α := Bool) (bif decide (r2968.1 < 0) then some true
  else (Option.bind (M.l_eqAccessS r2858.1 r2583.1) fun r2985 =>
  bif !r2985 then some true
  else some (!(r2858.2 == r2583.2)))) fun o2981 =>
  bif o2981 then some false
  else (Option.bind (M.l_markAccessS r2858.1 1) fun r3075 =>
  Option.bind (M.l_heldAccessS r3075.2 1) fun r3124 =>
  bif decide (r3124 < 0) then some false
  else (bif r3124 != r3075.1 then some false
  else (Option.bind (M.l_toRegionS x2219) fun r3132 =>
  Option.bind (M.l_toAccess x2224) fun r3138 =>
  Option.bind (M.i_SplitAccess r3132 r3138) fun r3139 =>
  Option.bind (α := Bool) (Option.bind (M.l_eqAccessS r3139.1 r2583.1) fun r3195 =>
  bif !r3195 then some true
  else some (!(r3139.2 == r2583.2))) fun o3192 =>
  bif o3192 then some false
  else (Option.bind (M.l_heldAccessS r3075.2 1) fun r3205 =>
  bif decide (r3205 < 0) then some false
  else (bif r3205 != r3075.1 then some false
  else some true))))))))
def M.s_l17Add (x3264 : List Region) (x3269 : Region) : Option ((List Region)) :=
  Option.bind (whileM (σ := Int) (ρ := Int) (fun s3319 =>
    Option.bind (α := Bool) (bif decide (s3319 < (x3264.length : Int)) then (Option.bind (gxIdx x3264 s3319) fun y3340 =>
    some (decide (y3340.Base < x3269.Base)))
    else some false) fun o3336 =>
    bif o3336 then some (.inl (w64 (s3319 + 1)))
    else some (.inr s3319)) gxFuel 0) fun out3326 =>
  Option.bind (gxSlice x3264 0 out3326) fun ys3361 =>
  Option.bind (gxApp 32 ([] : List Region) ys3361) fun ap3363 =>
  Option.bind (gxApp 32 ap3363 [x3269]) fun ap3374 =>
  Option.bind (gxSlice x3264 out3326 (x3264.length : Int)) fun ys3380 =>
  Option.bind (gxApp 32 ap3374 ys3380) fun ap3429 =>
  some ap3429
def M.s_PlaceRegion (x3231 : List Region) (x3236 : Int) : Option (Int × Bool) :=
  Option.bind (α := Bool) (Option.bind (M.s_l17Good x3231) fun r3249 =>
  bif !r3249 then some true
  else (Option.bind (M.s_l17Size x3236) fun r3254 =>
  some (!r3254))) fun o3246 =>
  bif o3246 then some (0, false)
  else (Option.bind (whileM (σ := Int) (ρ := (Unit) ⊕ (Int × Bool)) (fun s3466 =>
    bif decide (s3466 < 65536) then (Option.bind (M.s_l17Add x3231 (⟨s3466, x3236, 0, 0⟩ : Region)) fun r3478 =>
    Option.bind (M.s_l17Good r3478) fun r3487 =>
    bif r3487 then some (.inr (.inr (s3466, true)))
    else some (.inl (w64 (s3466 + x3236))))
    else some (.inr (.inl ()))) gxFuel 0) fun out3473 => Sum.elim (fun (o3476 : Unit) =>
  some (0, false)) (fun r => some r) out3473)
def M.slices_Clone_75 (x3544 : List Region) : Option ((List Region)) :=
  Option.bind (gxApp 32 ([] : List Region) x3544) fun ap3565 =>
  some ap3565
def M.cmp_isNaN_95 (x3657 : Int) : Option (Bool) :=
  some (x3657 != x3657)
def M.cmp_Compare_91 (x3655 : Int) (x3656 : Int) : Option (Int) :=
  Option.bind (M.cmp_isNaN_95 x3655) fun r3658 =>
  Option.bind (M.cmp_isNaN_95 x3656) fun r3662 =>
  bif r3658 then (bif r3662 then some 0
  else some (-1))
  else (bif r3662 then some 1
  else (bif decide (x3655 < x3656) then some (-1)
  else (bif decide (x3655 > x3656) then some 1
  else some 0)))
def M.i_asMap_1 (x3645 : Region) (x3646 : Region) : Option (Int) :=
  Option.bind (M.cmp_Compare_91 x3645.Base x3646.Base) fun r3671 =>
  some r3671
def M.slices_insertionSortCmpFunc_96__i_asMap_1 (x3707 : List Region) (x3713 : Int) (x3714 : Int) : Option ((List Region)) :=
  Option.bind (whileM (σ := Int × List Region) (ρ := List Region) (fun s4435 =>
    bif decide (s4435.1 < x3714) then (Option.bind (whileM (σ := Int × List Region) (ρ := List Region) (fun s4678 =>
      Option.bind (α := Bool) (bif decide (s4678.1 > x3713) then (Option.bind (gxIdx s4678.2 s4678.1) fun y4710 =>
      Option.bind (gxIdx s4678.2 (w64 (s4678.1 - 1))) fun y4711 =>
      Option.bind (M.i_asMap_1 y4710 y4711) fun r4712 =>
      some (decide (r4712 < 0)))
      else some false) fun o4706 =>
      bif o4706 then (Option.bind (gxIdx s4678.2 (w64 (s4678.1 - 1))) fun y4727 =>
      Option.bind (gxIdx s4678.2 s4678.1) fun y4728 =>
      Option.bind (gxIdx s4678.2 s4678.1) fun y4729 =>
      Option.bind (gxIdx (s4678.2.set s4678.1.toNat y4727) (w64 (s4678.1 - 1))) fun y4801 =>
      some (.inl (w64 (s4678.1 - 1), ((s4678.2.set s4678.1.toNat y4727).set (w64 (s4678.1 - 1)).toNat y4728))))
      else some (.inr s4678.2)) gxFuel (s4435.1, s4435.2)) fun out4685 =>
    some (.inl (w64 (s4435.1 + 1), out4685)))
    else some (.inr s4435.2)) gxFuel (w64 (x3713 + 1), x3707)) fun out4442 =>
  some out4442
def M.slices_swapRangeCmpFunc_99__i_asMap_1 (x5766 : List Region) (x5772 : Int) (x5773 : Int) (x5774 : Int) : Option ((List Region)) :=
  Option.bind (whileM (σ := Int × List Region) (ρ := List Region) (fun s5991 =>
    bif decide (s5991.1 < x5774) then (Option.bind (gxIdx s5991.2 (w64 (x5773 + s5991.1))) fun y6011 =>
    Option.bind (gxIdx s5991.2 (w64 (x5772 + s5991.1))) fun y6012 =>
    Option.bind (gxIdx s5991.2 (w64 (x5772 + s5991.1))) fun y6013 =>
    Option.bind (gxIdx (s5991.2.set (w64 (x5772 + s5991.1)).toNat y6011) (w64 (x5773 + s5991.1))) fun y6109 =>
    some (.inl (w64 (s5991.1 + 1), ((s5991.2.set (w64 (x5772 + s5991.1)).toNat y6011).set (w64 (x5773 + s5991.1)).toNat y6012))))
    else some (.inr s5991.2)) gxFuel (0, x5766)) fun out5998 =>
  some out5998
def M.slices_rotateCmpFunc_98__i_asMap_1 (x6119 : List Region) (x6125 : Int) (x6126 : Int) (x6127 : Int) : Option ((List Region)) :=
  Option.bind (whileM (σ := Int × Int × List Region) (ρ := Int × List Region) (fun s6214 =>
    bif s6214.1 != s6214.2.1 then (Option.bind (α := Int × Int × List Region) (bif decide (s6214.1 > s6214.2.1) then (Option.bind (M.slices_swapRangeCmpFunc_99__i_asMap_1 s6214.2.2 (w64 (x6126 - s6214.1)) x6126 s6214.2.1) fun r6254 =>
    some (w64 (s6214.1 - s6214.2.1), s6214.2.1, r6254))
    else (Option.bind (M.slices_swapRangeCmpFunc_99__i_asMap_1 s6214.2.2 (w64 (x6126 - s6214.1)) (w64 ((w64 (x6126 + s6214.2.1)) - s6214.1)) s6214.1) fun r6261 =>
    some (s6214.1, w64 (s6214.2.1 - s6214.1), r6261))) fun o6247 =>
    some (.inl (o6247.1, o6247.2.1, o6247.2.2)))
    else some (.inr (s6214.1, s6214.2.2))) gxFuel (w64 (x6126 - x6125), w64 (x6127 - x6126), x6119)) fun out6221 =>
  Option.bind (M.slices_swapRangeCmpFunc_99__i_asMap_1 out6221.2 (w64 (x6126 - out6221.1)) x6126 out6221.1) fun r6276 =>
  some r6276
def M.slices_symMergeCmpFunc_97__i_asMap_1 : Nat → (List Region) → Int → Int → Int → Option ((List Region))
  | 0, _, _, _, _ => none
  | n_ + 1, x4964, x4970, x4971, x4972 =>
    bif (w64 (x4971 - x4970)) == 1 then (Option.bind (whileM (σ := Int × Int) (ρ := Int) (fun s5011 =>
      bif decide (s5011.1 < s5011.2) then (Option.bind (gxIdx x4964 (w64 ((IntKind.u64.wrap (w64 (s5011.1 + s5011.2))).fdiv (2 ^ 1)))) fun y5023 =>
      Option.bind (gxIdx x4964 x4970) fun y5024 =>
      Option.bind (M.i_asMap_1 y5023 y5024) fun r5025 =>
      Option.bind (α := Int × Int) (bif decide (r5025 < 0) then some (w64 ((w64 ((IntKind.u64.wrap (w64 (s5011.1 + s5011.2))).fdiv (2 ^ 1))) + 1), s5011.2)
      else some (s5011.1, w64 ((IntKind.u64.wrap (w64 (s5011.1 + s5011.2))).fdiv (2 ^ 1)))) fun o5032 =>
      some (.inl (o5032.1, o5032.2)))
      else some (.inr s5011.1)) gxFuel (x4971, x4972)) fun out5018 =>
    Option.bind (whileM (σ := Int × List Region) (ρ := List Region) (fun s5211 =>
      bif decide (s5211.1 < (w64 (out5018 - 1))) then (Option.bind (gxIdx s5211.2 (w64 (s5211.1 + 1))) fun y5231 =>
      Option.bind (gxIdx s5211.2 s5211.1) fun y5232 =>
      Option.bind (gxIdx s5211.2 s5211.1) fun y5233 =>
      Option.bind (gxIdx (s5211.2.set s5211.1.toNat y5231) (w64 (s5211.1 + 1))) fun y5305 =>
      some (.inl (w64 (s5211.1 + 1), ((s5211.2.set s5211.1.toNat y5231).set (w64 (s5211.1 + 1)).toNat y5232))))
      else some (.inr s5211.2)) gxFuel (x4970, x4964)) fun out5218 =>
    some out5218)
    else (bif (w64 (x4972 - x4971)) == 1 then (Option.bind (whileM (σ := Int × Int) (ρ := Int) (fun s5351 =>
      bif decide (s5351.1 < s5351.2) then (Option.bind (gxIdx x4964 x4971) fun y5363 =>
      Option.bind (gxIdx x4964 (w64 ((IntKind.u64.wrap (w64 (s5351.1 + s5351.2))).fdiv (2 ^ 1)))) fun y5364 =>
      Option.bind (M.i_asMap_1 y5363 y5364) fun r5365 =>
      Option.bind (α := Int × Int) (bif !(decide (r5365 < 0)) then some (w64 ((w64 ((IntKind.u64.wrap (w64 (s5351.1 + s5351.2))).fdiv (2 ^ 1))) + 1), s5351.2)
      else some (s5351.1, w64 ((IntKind.u64.wrap (w64 (s5351.1 + s5351.2))).fdiv (2 ^ 1)))) fun o5372 =>
      some (.inl (o5372.1, o5372.2)))
      else some (.inr s5351.1)) gxFuel (x4970, x4971)) fun out5358 =>
    Option.bind (whileM (σ := Int × List Region) (ρ := List Region) (fun s5551 =>
      bif decide (s5551.1 > out5358) then (Option.bind (gxIdx s5551.2 (w64 (s5551.1 - 1))) fun y5571 =>
      Option.bind (gxIdx s5551.2 s5551.1) fun y5572 =>
      Option.bind (gxIdx s5551.2 s5551.1) fun y5573 =>
      Option.bind (gxIdx (s5551.2.set s5551.1.toNat y5571) (w64 (s5551.1 - 1))) fun y5645 =>
      some (.inl (w64 (s5551.1 - 1), ((s5551.2.set s5551.1.toNat y5571).set (w64 (s5551.1 - 1)).toNat y5572))))
      else some (.inr s5551.2)) gxFuel (x4971, x4964)) fun out5558 =>
    some out5558)
    else (Option.bind (α := Int × Int) (bif decide (x4971 > (w64 ((IntKind.u64.wrap (w64 (x4970 + x4972))).fdiv (2 ^ 1)))) then some (w64 ((w64 ((w64 ((IntKind.u64.wrap (w64 (x4970 + x4972))).fdiv (2 ^ 1))) + x4971)) - x4972), w64 ((IntKind.u64.wrap (w64 (x4970 + x4972))).fdiv (2 ^ 1)))
    else some (x4970, x4971)) fun o5655 =>
    Option.bind (whileM (σ := Int × Int) (ρ := Int) (fun s5699 =>
      bif decide (s5699.1 < s5699.2) then (Option.bind (gxIdx x4964 (w64 ((w64 ((w64 ((w64 ((IntKind.u64.wrap (w64 (x4970 + x4972))).fdiv (2 ^ 1))) + x4971)) - 1)) - (w64 ((IntKind.u64.wrap (w64 (s5699.1 + s5699.2))).fdiv (2 ^ 1)))))) fun y5711 =>
      Option.bind (gxIdx x4964 (w64 ((IntKind.u64.wrap (w64 (s5699.1 + s5699.2))).fdiv (2 ^ 1)))) fun y5712 =>
      Option.bind (M.i_asMap_1 y5711 y5712) fun r5713 =>
      Option.bind (α := Int × Int) (bif !(decide (r5713 < 0)) then some (w64 ((w64 ((IntKind.u64.wrap (w64 (s5699.1 + s5699.2))).fdiv (2 ^ 1))) + 1), s5699.2)
      else some (s5699.1, w64 ((IntKind.u64.wrap (w64 (s5699.1 + s5699.2))).fdiv (2 ^ 1)))) fun o5720 =>
      some (.inl (o5720.1, o5720.2)))
      else some (.inr s5699.1)) gxFuel (o5655.1, o5655.2)) fun out5706 =>
    Option.bind (α := Bool) (bif decide (out5706 < x4971) then some (decide (x4971 < (w64 ((w64 ((w64 ((IntKind.u64.wrap (w64 (x4970 + x4972))).fdiv (2 ^ 1))) + x4971)) - out5706))))
    else some false) fun o5733 =>
    Option.bind (α := List Region) (bif o5733 then (Option.bind (M.slices_rotateCmpFunc_98__i_asMap_1 x4964 out5706 x4971 (w64 ((w64 ((w64 ((IntKind.u64.wrap (w64 (x4970 + x4972))).fdiv (2 ^ 1))) + x4971)) - out5706))) fun r6297 =>
    some r6297)
    else some x4964) fun o6290 =>
    Option.bind (α := Bool) (bif decide (x4970 < out5706) then some (decide (out5706 < (w64 ((IntKind.u64.wrap (w64 (x4970 + x4972))).fdiv (2 ^ 1)))))
    else some false) fun o6309 =>
    Option.bind (α := List Region) (bif o6309 then (Option.bind (M.slices_symMergeCmpFunc_97__i_asMap_1 n_ o6290 x4970 out5706 (w64 ((IntKind.u64.wrap (w64 (x4970 + x4972))).fdiv (2 ^ 1)))) fun r6332 =>
    some r6332)
    else some o6290) fun o6325 =>
    Option.bind (α := Bool) (bif decide ((w64 ((IntKind.u64.wrap (w64 (x4970 + x4972))).fdiv (2 ^ 1))) < (w64 ((w64 ((w64 ((IntKind.u64.wrap (w64 (x4970 + x4972))).fdiv (2 ^ 1))) + x4971)) - out5706))) then some (decide ((w64 ((w64 ((w64 ((IntKind.u64.wrap (w64 (x4970 + x4972))).fdiv (2 ^ 1))) + x4971)) - out5706)) < x4972))
    else some false) fun o6344 =>
    Option.bind (α := List Region) (bif o6344 then (Option.bind (M.slices_symMergeCmpFunc_97__i_asMap_1 n_ o6325 (w64 ((IntKind.u64.wrap (w64 (x4970 + x4972))).fdiv (2 ^ 1))) (w64 ((w64 ((w64 ((IntKind.u64.wrap (w64 (x4970 + x4972))).fdiv (2 ^ 1))) + x4971)) - out5706)) x4972) fun r6367 =>
    some r6367)
    else some o6325) fun o6360 =>
    some o6360))
def M.slices_stableCmpFunc_94__i_asMap_1 (x4815 : List Region) (x4821 : Int) : Option ((List Region)) :=
  Option.bind (whileM (σ := Int × Int × List Region) (ρ := Int × List Region) (fun s4842 =>
    bif decide (s4842.2.1 ≤ x4821) then (Option.bind (M.slices_insertionSortCmpFunc_96__i_asMap_1 s4842.2.2 s4842.1 s4842.2.1) fun r4860 =>
    some (.inl (s4842.2.1, w64 (s4842.2.1 + 20), r4860)))
    else some (.inr (s4842.1, s4842.2.2))) gxFuel (0, 20, x4815)) fun out4849 =>
  Option.bind (M.slices_insertionSortCmpFunc_96__i_asMap_1 out4849.2 out4849.1 x4821) fun r4871 =>
  Option.bind (whileM (σ := Int × List Region) (ρ := List Region) (fun s6529 =>
    bif decide (s6529.1 < x4821) then (Option.bind (whileM (σ := Int × Int × List Region) (ρ := Int × List Region) (fun s6566 =>
      bif decide (s6566.2.1 ≤ x4821) then (Option.bind (M.slices_symMergeCmpFunc_97__i_asMap_1 gxFuel s6566.2.2 s6566.1 (w64 (s6566.1 + s6529.1)) s6566.2.1) fun r6584 =>
      some (.inl (s6566.2.1, w64 (s6566.2.1 + (w64 (2 * s6529.1))), r6584)))
      else some (.inr (s6566.1, s6566.2.2))) gxFuel (0, w64 (2 * s6529.1), s6529.2)) fun out6573 =>
    Option.bind (α := List Region) (bif decide ((w64 (out6573.1 + s6529.1)) < x4821) then (Option.bind (M.slices_symMergeCmpFunc_97__i_asMap_1 gxFuel out6573.2 out6573.1 (w64 (out6573.1 + s6529.1)) x4821) fun r6610 =>
    some r6610)
    else some out6573.2) fun o6603 =>
    some (.inl (w64 (s6529.1 * 2), o6603)))
    else some (.inr s6529.2)) gxFuel (20, r4871)) fun out6536 =>
  some out6536
def M.slices_SortStableFunc_89__i_asMap_1 (x6626 : List Region) : Option ((List Region)) :=
  Option.bind (M.slices_stableCmpFunc_94__i_asMap_1 x6626 (x6626.length : Int)) fun r6633 =>
  some r6633
def M.i_asMap (x3597 : List Region) : Option ((List Region) × Bool) :=
  Option.bind (gxApp 32 ([] : List Region) x3597) fun ap3614 =>
  Option.bind (M.slices_SortStableFunc_89__i_asMap_1 ap3614) fun r6640 =>
  Option.bind (M.i_IsMap r6640) fun r6647 =>
  bif !r6647 then some (([] : List Region), false)
  else some (r6640, true)
def M.i_PlaceRegion (x3509 : List Region) (x3514 : Int) : Option (Int × Bool) :=
  Option.bind (α := Bool) (Option.bind (M.i_IsMap x3509) fun r3528 =>
  bif !r3528 then some true
  else (Option.bind (M.i_isSize x3514) fun r3533 =>
  bif !r3533 then some true
  else some ((x3509.length : Int) == 6))) fun o3525 =>
  bif o3525 then some (0, false)
  else (Option.bind (whileM (σ := Int) (ρ := (Unit) ⊕ (Int × Bool)) (fun s6698 =>
    bif decide ((w64 (s6698 + x3514)) ≤ 65536) then (Option.bind (M.slices_Clone_75 x3509) fun r6710 =>
    Option.bind (gxApp 32 r6710 [(⟨s6698, x3514, 0, 0⟩ : Region)]) fun ap6726 =>
    Option.bind (M.i_asMap ap6726) fun r6734 =>
    bif r6734.2 then some (.inr (.inr (s6698, true)))
    else some (.inl (w64 (s6698 + x3514))))
    else some (.inr (.inl ()))) gxFuel 0) fun out6705 => Sum.elim (fun (o6708 : Unit) =>
  some (0, false)) (fun r => some r) out6705)
def M.l_FnExactPlaceRegion (x3211 : List Region) (x3216 : Int) : Option (Bool) :=
  Option.bind (M.l_szRegionS x3211 1048576) fun r3217 =>
  bif decide (r3217 < 0) then some true
  else (Option.bind (M.l_toRegionS x3211) fun r3222 =>
  Option.bind (M.s_PlaceRegion r3222 x3216) fun r3496 =>
  Option.bind (M.l_toRegionS x3211) fun r3500 =>
  Option.bind (M.i_PlaceRegion r3500 x3216) fun r6748 =>
  Option.bind (α := Bool) (bif r6748.1 != r3496.1 then some true
  else some (!(r6748.2 == r3496.2))) fun o6753 =>
  bif o6753 then some false
  else (Option.bind (M.l_toRegionS x3211) fun r6762 =>
  Option.bind (M.l_eqRegionS r3500 r6762) fun r6771 =>
  bif !r6771 then some false
  else some true))
def M.s_AddRegion (x6800 : List Region) (x6805 : Region) : Option ((List Region) × Bool) :=
  Option.bind (α := Bool) (Option.bind (M.s_l17Good x6800) fun r6836 =>
  bif !r6836 then some true
  else (Option.bind (M.s_l17Add x6800 x6805) fun r6841 =>
  Option.bind (M.s_l17Good r6841) fun r6850 =>
  some (!r6850))) fun o6833 =>
  bif o6833 then some (([] : List Region), false)
  else (Option.bind (M.s_l17Add x6800 x6805) fun r6866 =>
  some (r6866, true))
def M.i_AddRegion (x6936 : List Region) (x6941 : Region) : Option ((List Region) × Bool) :=
  Option.bind (M.i_IsMap x6936) fun r6951 =>
  bif !r6951 then some (([] : List Region), false)
  else (Option.bind (M.slices_Clone_75 x6936) fun r6959 =>
  Option.bind (gxApp 32 r6959 [x6941]) fun ap6970 =>
  Option.bind (M.i_asMap ap6970) fun r6976 =>
  some (r6976.1, r6976.2))
def M.l_heldRegionS (x7094 : List Region) (x7099 : Int) : Option (Int) :=
  Option.bind (whileM (σ := Int × Int) (ρ := (Int) ⊕ (Int)) (fun s7118 =>
    bif decide (s7118.2 < (x7094.length : Int)) then (Option.bind (gxIdx x7094 s7118.2) fun y7130 =>
    bif y7130.Base != s7118.1 then some (.inr (.inr (-1)))
    else (Option.bind (gxIdx x7094 s7118.2) fun y7132 =>
    bif y7132.Size != (w64 (s7118.1 + 1)) then some (.inr (.inr (-1)))
    else (Option.bind (gxIdx x7094 s7118.2) fun y7134 =>
    bif y7134.Kind != (w64 ((w64 (s7118.1 + 1)) + 1)) then some (.inr (.inr (-1)))
    else (Option.bind (gxIdx x7094 s7118.2) fun y7136 =>
    bif y7136.Unit != (w64 ((w64 ((w64 (s7118.1 + 1)) + 1)) + 1)) then some (.inr (.inr (-1)))
    else some (.inl (w64 ((w64 ((w64 ((w64 (s7118.1 + 1)) + 1)) + 1)) + 1), w64 (s7118.2 + 1)))))))
    else some (.inr (.inl s7118.1))) gxFuel (x7099, 0)) fun out7125 => Sum.elim (fun (o7128 : Int) =>
  some o7128) (fun r => some r) out7125
def M.l_FnExactAddRegion (x6776 : List Region) (x6781 : Region) : Option (Bool) :=
  Option.bind (M.l_szRegionS x6776 1048576) fun r6786 =>
  bif decide (r6786 < 0) then some true
  else (Option.bind (M.l_toRegionS x6776) fun r6793 =>
  Option.bind (M.l_toRegion x6781) fun r6799 =>
  Option.bind (M.s_AddRegion r6793 r6799) fun r6875 =>
  Option.bind (M.l_toRegionS x6776) fun r6923 =>
  Option.bind (M.l_toRegion x6781) fun r6932 =>
  Option.bind (M.i_AddRegion r6923 r6932) fun r7019 =>
  Option.bind (α := Bool) (Option.bind (M.l_eqRegionS r7019.1 r6875.1) fun r7036 =>
  bif !r7036 then some true
  else some (!(r7019.2 == r6875.2))) fun o7033 =>
  bif o7033 then some false
  else (Option.bind (M.l_toRegionS x6776) fun r7046 =>
  Option.bind (M.l_eqRegionS r6923 r7046) fun r7055 =>
  bif !r7055 then some false
  else (Option.bind (M.l_markRegionS r6923 1) fun r7060 =>
  Option.bind (α := Bool) (bif decide (r7060.1 < 0) then some true
  else (Option.bind (M.l_eqRegionS r7019.1 r6875.1) fun r7077 =>
  bif !r7077 then some true
  else some (!(r7019.2 == r6875.2)))) fun o7073 =>
  bif o7073 then some false
  else (Option.bind (M.l_markRegionS r7019.1 1) fun r7087 =>
  Option.bind (M.l_heldRegionS r7087.2 1) fun r7142 =>
  bif decide (r7142 < 0) then some false
  else (bif r7142 != r7087.1 then some false
  else (Option.bind (M.l_toRegionS x6776) fun r7150 =>
  Option.bind (M.l_toRegion x6781) fun r7156 =>
  Option.bind (M.i_AddRegion r7150 r7156) fun r7157 =>
  Option.bind (α := Bool) (Option.bind (M.l_eqRegionS r7157.1 r6875.1) fun r7213 =>
  bif !r7213 then some true
  else some (!(r7157.2 == r6875.2))) fun o7210 =>
  bif o7210 then some false
  else (Option.bind (M.l_heldRegionS r7087.2 1) fun r7223 =>
  bif decide (r7223 < 0) then some false
  else (bif r7223 != r7087.1 then some false
  else some true))))))))
def M.s_MoveRegion (x7250 : List Region) (x7255 : Int) (x7256 : Int) : Option ((List Region) × Bool) :=
  Option.bind (α := Bool) (Option.bind (M.s_l17Good x7250) fun r7274 =>
  bif !r7274 then some true
  else (Option.bind (M.s_l1In x7255 0 (w64 ((x7250.length : Int) - 1))) fun r7279 =>
  some (!r7279))) fun o7271 =>
  bif o7271 then some (([] : List Region), false)
  else (Option.bind (gxIdx x7250 x7255) fun y7295 =>
  Option.bind (gxSlice x7250 0 x7255) fun ys7311 =>
  Option.bind (gxApp 32 ([] : List Region) ys7311) fun ap7313 =>
  Option.bind (gxSlice x7250 (w64 (x7255 + 1)) (x7250.length : Int)) fun ys7319 =>
  Option.bind (gxApp 32 ap7313 ys7319) fun ap7321 =>
  Option.bind (M.s_l17Add ap7321 (⟨x7256, y7295.Size, y7295.Kind, y7295.Unit⟩ : Region)) fun r7374 =>
  Option.bind (M.s_l17Good r7374) fun r7383 =>
  bif !r7383 then some (([] : List Region), false)
  else some (r7374, true))
def M.i_MoveRegion (x7413 : List Region) (x7418 : Int) (x7419 : Int) : Option ((List Region) × Bool) :=
  Option.bind (α := Bool) (Option.bind (M.i_IsMap x7413) fun r7437 =>
  bif !r7437 then some true
  else (Option.bind (M.i_inside x7418 0 (w64 ((x7413.length : Int) - 1))) fun r7442 =>
  some (!r7442))) fun o7434 =>
  bif o7434 then some (([] : List Region), false)
  else (Option.bind (M.slices_Clone_75 x7413) fun r7452 =>
  Option.bind (gxIdx r7452 x7418) fun y7461 =>
  Option.bind (M.i_asMap (r7452.set x7418.toNat (⟨x7419, y7461.Size, y7461.Kind, y7461.Unit⟩ : Region))) fun r7466 =>
  some (r7466.1, r7466.2))
def M.l_FnExactMoveRegion (x7229 : List Region) (x7234 : Int) (x7235 : Int) : Option (Bool) :=
  Option.bind (M.l_szRegionS x7229 1048576) fun r7236 =>
  bif decide (r7236 < 0) then some true
  else (Option.bind (M.l_toRegionS x7229) fun r7241 =>
  Option.bind (M.s_MoveRegion r7241 x7234 x7235) fun r7395 =>
  Option.bind (M.l_toRegionS x7229) fun r7404 =>
  Option.bind (M.i_MoveRegion r7404 x7234 x7235) fun r7475 =>
  Option.bind (α := Bool) (Option.bind (M.l_eqRegionS r7475.1 r7395.1) fun r7492 =>
  bif !r7492 then some true
  else some (!(r7475.2 == r7395.2))) fun o7489 =>
  bif o7489 then some false
  else (Option.bind (M.l_toRegionS x7229) fun r7502 =>
  Option.bind (M.l_eqRegionS r7404 r7502) fun r7511 =>
  bif !r7511 then some false
  else (Option.bind (M.l_markRegionS r7404 1) fun r7516 =>
  Option.bind (α := Bool) (bif decide (r7516.1 < 0) then some true
  else (Option.bind (M.l_eqRegionS r7475.1 r7395.1) fun r7533 =>
  bif !r7533 then some true
  else some (!(r7475.2 == r7395.2)))) fun o7529 =>
  bif o7529 then some false
  else (Option.bind (M.l_markRegionS r7475.1 1) fun r7543 =>
  Option.bind (M.l_heldRegionS r7543.2 1) fun r7550 =>
  bif decide (r7550 < 0) then some false
  else (bif r7550 != r7543.1 then some false
  else (Option.bind (M.l_toRegionS x7229) fun r7556 =>
  Option.bind (M.i_MoveRegion r7556 x7234 x7235) fun r7565 =>
  Option.bind (α := Bool) (Option.bind (M.l_eqRegionS r7565.1 r7395.1) fun r7582 =>
  bif !r7582 then some true
  else some (!(r7565.2 == r7395.2))) fun o7579 =>
  bif o7579 then some false
  else (Option.bind (M.l_heldRegionS r7543.2 1) fun r7592 =>
  bif decide (r7592 < 0) then some false
  else (bif r7592 != r7543.1 then some false
  else some true))))))))
def M.l_rBig (x7603 : List Int) : Option (Bool) :=
  some (decide ((x7603.length : Int) > 65536))
def M.s_l1Cur_next (x7662 : l1Cur) : Option (Int × Int × Int) :=
  Option.bind (α := Int) (bif decide (x7662.at_ < (x7662.code.length : Int)) then (Option.bind (gxIdx x7662.code x7662.at_) fun y7680 =>
  some (w64 y7680))
  else some 0) fun o7676 =>
  bif decide ((w64 (x7662.at_ + 1)) ≤ (x7662.code.length : Int)) then some (o7676, w64 (x7662.at_ + 1), IntKind.u64.wrap ((IntKind.u64.wrap ((IntKind.u64.wrap (x7662.seed * 6364136223846793005)) + (IntKind.u64.wrap o7676))) + 843843))
  else some (w64 (gxAnd .u64 ((IntKind.u64.wrap ((IntKind.u64.wrap ((IntKind.u64.wrap (x7662.seed * 6364136223846793005)) + (IntKind.u64.wrap o7676))) + 843843)).fdiv (2 ^ 40)) 255), w64 (x7662.at_ + 1), IntKind.u64.wrap ((IntKind.u64.wrap ((IntKind.u64.wrap (x7662.seed * 6364136223846793005)) + (IntKind.u64.wrap o7676))) + 843843))
def M.s_l1Cur_pick (x7652 : l1Cur) (x7660 : Int) : Option (Int × Int × Int) :=
  bif decide (x7660 ≤ 1) then some (0, x7652.at_, x7652.seed)
  else (Option.bind (M.s_l1Cur_next x7652) fun r7694 =>
  Option.bind (α := Int × Int × Int) (bif decide (x7660 > 200) then (Option.bind (M.s_l1Cur_next (⟨x7652.code, r7694.2.1, r7694.2.2⟩ : l1Cur)) fun r7707 =>
  some (w64 ((w64 (r7694.1 * 256)) + r7707.1), r7707.2.1, r7707.2.2))
  else some (r7694.1, r7694.2.1, r7694.2.2)) fun o7703 =>
  Option.bind (gxRem o7703.1 x7660) fun q7715 =>
  some (q7715, o7703.2.1, o7703.2.2))
def M.s_l1Cur_among (x7740 : l1Cur) (x7748 : List Int) : Option (Int × Int × Int) :=
  Option.bind (M.s_l1Cur_pick x7740 (x7748.length : Int)) fun r7754 =>
  Option.bind (gxIdx x7748 r7754.1) fun y7758 =>
  some (y7758, r7754.2.1, r7754.2.2)
def M.s_l1Cur_region (x7721 : l1Cur) : Option (Region × Int × Int) :=
  Option.bind (M.s_l1Cur_among x7721 [4, 8, 16, 256, 4096]) fun r7759 =>
  Option.bind (M.s_l1Cur_pick (⟨x7721.code, r7759.2.1, r7759.2.2⟩ : l1Cur) 4) fun r7763 =>
  Option.bind (M.s_l1Cur_pick (⟨x7721.code, r7763.2.1, r7763.2.2⟩ : l1Cur) 16) fun r7767 =>
  Option.bind (gxDiv 65536 r7759.1) fun q7779 =>
  Option.bind (M.s_l1Cur_among (⟨x7721.code, r7767.2.1, r7767.2.2⟩ : l1Cur) [0, 1, 2, 3, 15, w64 (q7779 - 1)]) fun r7785 =>
  Option.bind (M.s_l1Cur_pick (⟨x7721.code, r7785.2.1, r7785.2.2⟩ : l1Cur) 60) fun r7829 =>
  Option.bind (α := Int × Int × Int × Int × Int × Int) (bif r7829.1 == 0 then (Option.bind (M.s_l1Cur_among (⟨x7721.code, r7829.2.1, r7829.2.2⟩ : l1Cur) [(-4), 2, 65536]) fun r8103 =>
  some (r8103.2.1, r8103.2.2, r8103.1, r7759.1, r7763.1, r7767.1))
  else (Option.bind (α := Int × Int × Int × Int × Int) (bif r7829.1 == 1 then (Option.bind (M.s_l1Cur_among (⟨x7721.code, r7829.2.1, r7829.2.2⟩ : l1Cur) [0, 2, 6, 8192]) fun r8239 =>
  some (r8239.2.1, r8239.2.2, r8239.1, r7763.1, r7767.1))
  else (Option.bind (α := Int × Int × Int × Int) (bif r7829.1 == 2 then (Option.bind (M.s_l1Cur_among (⟨x7721.code, r7829.2.1, r7829.2.2⟩ : l1Cur) [(-1), 4]) fun r8305 =>
  some (r8305.2.1, r8305.2.2, r8305.1, r7767.1))
  else (Option.bind (α := Int × Int × Int) (bif r7829.1 == 3 then (Option.bind (M.s_l1Cur_among (⟨x7721.code, r7829.2.1, r7829.2.2⟩ : l1Cur) [(-1), 16]) fun r8336 =>
  some (r8336.2.1, r8336.2.2, r8336.1))
  else some (r7829.2.1, r7829.2.2, r7767.1)) fun o8325 =>
  some (o8325.1, o8325.2.1, r7763.1, o8325.2.2))) fun o8294 =>
  some (o8294.1, o8294.2.1, r7759.1, o8294.2.2.1, o8294.2.2.2))) fun o8228 =>
  some (o8228.1, o8228.2.1, w64 (r7759.1 * r7785.1), o8228.2.2.1, o8228.2.2.2.1, o8228.2.2.2.2))) fun o8092 =>
  some ((⟨o8092.2.2.1, o8092.2.2.2.1, o8092.2.2.2.2.1, o8092.2.2.2.2.2⟩ : Region), o8092.1, o8092.2.1)
def M.s_l1Cur_regions (x7632 : l1Cur) : Option ((List Region) × Int × Int) :=
  Option.bind (M.s_l1Cur_pick x7632 7) fun r7716 =>
  Option.bind (whileM (σ := List Region × Int × Int × Int) (ρ := List Region × Int × Int) (fun s8420 =>
    bif decide (s8420.2.1 > 0) then (Option.bind (M.s_l1Cur_region (⟨x7632.code, s8420.2.2.1, s8420.2.2.2⟩ : l1Cur)) fun r8442 =>
    Option.bind (M.s_AddRegion s8420.1 r8442.1) fun r8446 =>
    Option.bind (α := List Region) (bif r8446.2 then some r8446.1
    else some s8420.1) fun o8456 =>
    some (.inl (o8456, w64 (s8420.2.1 - 1), r8442.2.1, r8442.2.2)))
    else some (.inr (s8420.1, s8420.2.2.1, s8420.2.2.2))) gxFuel (([] : List Region), r7716.1, r7716.2.1, r7716.2.2)) fun out8427 =>
  Option.bind (M.s_l1Cur_pick (⟨x7632.code, out8427.2.1, out8427.2.2⟩ : l1Cur) 30) fun r8473 =>
  Option.bind (α := List Region × Int × Int) (bif r8473.1 == 0 then (Option.bind (M.s_l1Cur_region (⟨x7632.code, r8473.2.1, r8473.2.2⟩ : l1Cur)) fun r8714 =>
  Option.bind (gxApp 32 out8427.1 [r8714.1]) fun ap8725 =>
  some (ap8725, r8714.2.1, r8714.2.2))
  else (Option.bind (α := List Region × Int × Int) (bif r8473.1 == 1 then (Option.bind (whileM (σ := List Region × Int × Int × Int) (ρ := List Region × Int × Int) (fun s8892 =>
    Option.bind (M.s_l1Cur_pick (⟨x7632.code, s8892.2.2.1, s8892.2.2.2⟩ : l1Cur) 2) fun r8913 =>
    bif decide (s8892.2.1 < (w64 (6 + r8913.1))) then (Option.bind (gxApp 32 s8892.1 [(⟨w64 (8 * s8892.2.1), 4, s8892.2.1.tmod 4, s8892.2.1⟩ : Region)]) fun ap8925 =>
    some (.inl (ap8925, w64 (s8892.2.1 + 1), r8913.2.1, r8913.2.2)))
    else some (.inr (s8892.1, r8913.2.1, r8913.2.2))) gxFuel (([] : List Region), 0, r8473.2.1, r8473.2.2)) fun out8899 =>
  some (out8899.1, out8899.2.1, out8899.2.2))
  else some (out8427.1, r8473.2.1, r8473.2.2)) fun o8831 =>
  some (o8831.1, o8831.2.1, o8831.2.2))) fun o8705 =>
  some (o8705.1, o8705.2.1, o8705.2.2)
def M.s_l1Cur_one (x8987 : l1Cur) (x8995 : Int) : Option (Bool × Int × Int) :=
  Option.bind (M.s_l1Cur_pick x8987 x8995) fun r8996 =>
  some (r8996.1 == 0, r8996.2.1, r8996.2.2)
def M.s_l1Cur_address17 (x8972 : l1Cur) (x8980 : List Region) : Option (Int × Int × Int) :=
  Option.bind (α := Bool × Int × Int) (bif (x8980.length : Int) == 0 then some (true, x8972.at_, x8972.seed)
  else (Option.bind (M.s_l1Cur_one x8972 4) fun r9008 =>
  some (r9008.1, r9008.2.1, r9008.2.2))) fun o9004 =>
  bif o9004.1 then (Option.bind (M.s_l1Cur_pick (⟨x8972.code, o9004.2.1, o9004.2.2⟩ : l1Cur) 24) fun r9024 =>
  Option.bind (gxSlice [0, 5, 40, 65535, (-1), 65536] 0 (w64 (4 + (w64 (r9024.1.tdiv 11))))) fun ys9028 =>
  Option.bind (M.s_l1Cur_among (⟨x8972.code, r9024.2.1, r9024.2.2⟩ : l1Cur) ys9028) fun r9030 =>
  some (r9030.1, r9030.2.1, r9030.2.2))
  else (Option.bind (M.s_l1Cur_pick (⟨x8972.code, o9004.2.1, o9004.2.2⟩ : l1Cur) (x8980.length : Int)) fun r9034 =>
  Option.bind (gxIdx x8980 r9034.1) fun y9038 =>
  Option.bind (M.s_l1Cur_among (⟨x8972.code, r9034.2.1, r9034.2.2⟩ : l1Cur) [0, 1, 2, 4, w64 (y9038.Size - 1), y9038.Size, (-1)]) fun r9052 =>
  some (w64 (y9038.Base + r9052.1), r9052.2.1, r9052.2.2))
def M.s_l1Cur_access (x8954 : l1Cur) (x8962 : List Region) : Option (Access × Int × Int) :=
  Option.bind (M.s_l1Cur_address17 x8954 x8962) fun r9098 =>
  Option.bind (M.s_l1Cur_among (⟨x8954.code, r9098.2.1, r9098.2.2⟩ : l1Cur) [1, 2, 4, 4]) fun r9109 =>
  Option.bind (M.s_l1Cur_one (⟨x8954.code, r9109.2.1, r9109.2.2⟩ : l1Cur) 2) fun r9113 =>
  Option.bind (α := Bool × Int × Int) (bif decide (r9098.1 > 0) then (Option.bind (M.s_l1Cur_one (⟨x8954.code, r9113.2.1, r9113.2.2⟩ : l1Cur) 4) fun r9132 =>
  some (!r9132.1, r9132.2.1, r9132.2.2))
  else some (false, r9113.2.1, r9113.2.2)) fun o9128 =>
  Option.bind (α := Int) (bif o9128.1 then (Option.bind (gxRem r9098.1 r9109.1) fun q9183 =>
  some (w64 (r9098.1 - q9183)))
  else some r9098.1) fun o9177 =>
  Option.bind (M.s_l1Cur_one (⟨x8954.code, o9128.2.1, o9128.2.2⟩ : l1Cur) 30) fun r9221 =>
  Option.bind (α := Int × Int × Int) (bif r9221.1 then (Option.bind (M.s_l1Cur_among (⟨x8954.code, r9221.2.1, r9221.2.2⟩ : l1Cur) [0, 3, 8]) fun r9250 =>
  some (r9250.2.1, r9250.2.2, r9250.1))
  else some (r9221.2.1, r9221.2.2, r9109.1)) fun o9239 =>
  some ((⟨o9177, o9239.2.2, r9113.1⟩ : Access), o9239.1, o9239.2.1)
def M.s_DrawRouteAccess (x7613 : List Int) : Option ((List Region) × Access) :=
  Option.bind (M.s_l1Cur_regions (⟨x7613, 0, 0⟩ : l1Cur)) fun r8945 =>
  Option.bind (M.s_l1Cur_access (⟨x7613, r8945.2.1, r8945.2.2⟩ : l1Cur) r8945.1) fun r9262 =>
  some (r8945.1, r9262.1)
def M.i_FindRegion (x9305 : List Region) (x9310 : Int) : Option (Int × Bool) :=
  Option.bind (M.i_findRegion x9305 x9310) fun r9311 =>
  Option.bind (α := Bool) (Option.bind (M.i_IsMap x9305) fun r9323 =>
  bif !r9323 then some true
  else some (decide (r9311 < 0))) fun o9320 =>
  bif o9320 then some (0, false)
  else some (r9311, true)
def M.s_FindRegion (x9337 : List Region) (x9342 : Int) : Option (Int × Bool) :=
  Option.bind (α := Bool) (Option.bind (M.s_l17Good x9337) fun r9360 =>
  bif !r9360 then some true
  else (Option.bind (M.s_l17Address x9342) fun r9365 =>
  bif !r9365 then some true
  else (Option.bind (M.s_l17Find x9337 x9342) fun r9370 =>
  some (decide (r9370 < 0))))) fun o9357 =>
  bif o9357 then some (0, false)
  else (Option.bind (M.s_l17Find x9337 x9342) fun r9379 =>
  some (r9379, true))
def M.s_DrawUnitsBetween (x9631 : List Int) : Option ((List Region) × Int × Int) :=
  Option.bind (M.s_l1Cur_regions (⟨x9631, 0, 0⟩ : l1Cur)) fun r9646 =>
  Option.bind (M.s_l1Cur_address17 (⟨x9631, r9646.2.1, r9646.2.2⟩ : l1Cur) r9646.1) fun r9655 =>
  Option.bind (M.s_l1Cur_among (⟨x9631, r9655.2.1, r9655.2.2⟩ : l1Cur) [0, 3, 100, 5000, (-1), 70000]) fun r9666 =>
  some (r9646.1, r9655.1, w64 (r9655.1 + r9666.1))
def M.l_rInts (x9698 : List Int) (x9703 : List Int) : Option (Bool) :=
  bif (x9698.length : Int) != (x9703.length : Int) then some false
  else (Option.bind (whileM (σ := Int) (ρ := (Unit) ⊕ (Bool)) (fun s9721 =>
    bif decide (s9721 < (x9698.length : Int)) then (Option.bind (gxIdx x9698 s9721) fun y9733 =>
    Option.bind (gxIdx x9703 s9721) fun y9734 =>
    bif y9733 != y9734 then some (.inr (.inr false))
    else some (.inl (w64 (s9721 + 1))))
    else some (.inr (.inl ()))) gxFuel 0) fun out9728 => Sum.elim (fun (o9731 : Unit) =>
  some true) (fun r => some r) out9728)
def M.s_DrawFindRegion (x9759 : List Int) : Option ((List Region) × Int) :=
  Option.bind (M.s_l1Cur_regions (⟨x9759, 0, 0⟩ : l1Cur)) fun r9774 =>
  Option.bind (M.s_l1Cur_address17 (⟨x9759, r9774.2.1, r9774.2.2⟩ : l1Cur) r9774.1) fun r9783 =>
  some (r9774.1, r9783.1)
def M.l_FnBus (x7598 : List Int) : Option (Bool) :=
  Option.bind (M.l_rBig x7598) fun r7608 =>
  bif r7608 then some true
  else (Option.bind (M.s_DrawRouteAccess x7598) fun r9268 =>
  Option.bind (M.i_RouteAccess r9268.1 r9268.2) fun r9283 =>
  Option.bind (M.s_RouteAccess r9268.1 r9268.2) fun r9287 =>
  Option.bind (α := Bool) (bif r9283.1 != r9287.1 then some true
  else (bif r9283.2.1 != r9287.2.1 then some true
  else (bif r9283.2.2.1 != r9287.2.2.1 then some true
  else some (!(r9283.2.2.2 == r9287.2.2.2))))) fun o9294 =>
  bif o9294 then some false
  else (Option.bind (M.i_FindRegion r9268.1 r9268.2.Address) fun r9333 =>
  Option.bind (M.s_FindRegion r9268.1 r9268.2.Address) fun r9383 =>
  Option.bind (α := Bool) (bif r9333.1 != r9383.1 then some true
  else some (!(r9333.2 == r9383.2))) fun o9388 =>
  bif o9388 then some false
  else (Option.bind (α := Bool) (bif r9283.2.2.2 then (bif r9283.2.2.1 == 0 then (bif !r9333.2 then some true
  else (Option.bind (gxIdx r9268.1 r9333.1) fun y9425 =>
  bif r9283.1 != y9425.Unit then some true
  else (Option.bind (gxIdx r9268.1 r9333.1) fun y9429 =>
  bif (w64 (y9429.Base + r9283.2.1)) != r9268.2.Address then some true
  else (Option.bind (gxIdx r9268.1 r9333.1) fun y9433 =>
  some (decide ((w64 (r9283.2.1 + r9268.2.Width)) > y9433.Size))))))
  else some false)
  else some false) fun o9417 =>
  bif o9417 then some false
  else (Option.bind (M.i_SplitAccess r9268.1 r9268.2) fun r9445 =>
  Option.bind (M.s_SplitAccess r9268.1 r9268.2) fun r9454 =>
  Option.bind (α := Bool) (bif !(r9445.2 == r9454.2) then some true
  else some ((r9445.1.length : Int) != (r9454.1.length : Int))) fun o9464 =>
  bif o9464 then some false
  else (Option.bind (whileM (σ := Int × Int) (ρ := (Int) ⊕ (Bool)) (fun s9555 =>
    bif decide (s9555.2 < (r9445.1.length : Int)) then (Option.bind (gxIdx r9445.1 s9555.2) fun y9567 =>
    Option.bind (M.i_RouteAccess r9268.1 y9567) fun r9568 =>
    Option.bind (α := Bool) (bif !r9568.2.2.2 then some true
    else (bif r9568.2.2.1 != 0 then some true
    else (Option.bind (gxIdx r9445.1 s9555.2) fun y9594 =>
    bif y9594.Address != s9555.1 then some true
    else (Option.bind (gxIdx r9445.1 s9555.2) fun y9598 =>
    some (!(y9598.Store == r9268.2.Store)))))) fun o9585 =>
    bif o9585 then some (.inr (.inr false))
    else (Option.bind (gxIdx r9445.1 s9555.2) fun y9606 =>
    some (.inl (w64 (s9555.1 + y9606.Width), w64 (s9555.2 + 1)))))
    else some (.inr (.inl s9555.1))) gxFuel (r9268.2.Address, 0)) fun out9562 => Sum.elim (fun (o9565 : Int) =>
  Option.bind (α := Bool) (bif r9445.2 then (bif o9565 != (w64 (r9268.2.Address + r9268.2.Width)) then some true
  else (bif r9283.2.2.2 then (bif r9283.2.2.1 == 0 then some ((r9445.1.length : Int) != 1)
  else some false)
  else some false))
  else (bif r9283.2.2.2 then (bif r9283.2.2.1 == 0 then some ((r9445.1.length : Int) != 1)
  else some false)
  else some false)) fun o9617 =>
  bif o9617 then some false
  else (Option.bind (M.s_DrawUnitsBetween x7598) fun r9670 =>
  Option.bind (M.i_UnitsBetween r9670.1 r9670.2.1 r9670.2.2) fun r9679 =>
  Option.bind (M.s_UnitsBetween r9670.1 r9670.2.1 r9670.2.2) fun r9688 =>
  Option.bind (α := Bool) (bif !(r9679.2 == r9688.2) then some true
  else (Option.bind (M.l_rInts r9679.1 r9688.1) fun r9750 =>
  some (!r9750))) fun o9746 =>
  bif o9746 then some false
  else (Option.bind (M.s_DrawFindRegion x7598) fun r9787 =>
  Option.bind (M.i_FindRegion r9787.1 r9787.2) fun r9796 =>
  Option.bind (M.s_FindRegion r9787.1 r9787.2) fun r9800 =>
  Option.bind (α := Bool) (bif r9796.1 == r9800.1 then some (r9796.2 == r9800.2)
  else some false) fun o9805 =>
  some o9805))) (fun r => some r) out9562)))))
end Go.Proofs.Ytphinfkojhecdaa
