/- The models of the functions, printed by program: what each computes, in plain Lean. -/
import Derived.Test.YtimffallbjpcjaaGreatDoorGxO
set_option linter.unusedVariables false
set_option maxRecDepth 100000
set_option maxHeartbeats 4000000
namespace Go.Proofs.YtimffallbjpcjaaGreatDoor
open Go.Gx
structure Event where
  Tick : Int
  Guest : Int
  Kind : ByteArray
  Value : Int
def encEvent : Enc Event := ⟨fun x => [.int .i64 x.Tick, .int .i64 x.Guest, .string x.Kind, .int .i64 x.Value], 4, fun _ => rfl, by simp [Value.oneCell']⟩
structure l1Cur where
  code : List Int
  at_ : Int
  seed : Int
def M.l_rBig (x6 : List Int) : Option (Bool) :=
  some (decide ((x6.length : Int) > 65536))
def M.s_l1Cur_next (x70 : l1Cur) : Option (Int × Int × Int) :=
  Option.bind (α := Int) (bif decide (x70.at_ < (x70.code.length : Int)) then (Option.bind (gxIdx x70.code x70.at_) fun y88 =>
  some (w64 y88))
  else some 0) fun o84 =>
  bif decide ((w64 (x70.at_ + 1)) ≤ (x70.code.length : Int)) then some (o84, w64 (x70.at_ + 1), IntKind.u64.wrap ((IntKind.u64.wrap ((IntKind.u64.wrap (x70.seed * 6364136223846793005)) + (IntKind.u64.wrap o84))) + 843843))
  else some (w64 (gxAnd .u64 ((IntKind.u64.wrap ((IntKind.u64.wrap ((IntKind.u64.wrap (x70.seed * 6364136223846793005)) + (IntKind.u64.wrap o84))) + 843843)).fdiv (2 ^ 40)) 255), w64 (x70.at_ + 1), IntKind.u64.wrap ((IntKind.u64.wrap ((IntKind.u64.wrap (x70.seed * 6364136223846793005)) + (IntKind.u64.wrap o84))) + 843843))
def M.s_l1Cur_pick (x60 : l1Cur) (x68 : Int) : Option (Int × Int × Int) :=
  bif decide (x68 ≤ 1) then some (0, x60.at_, x60.seed)
  else (Option.bind (M.s_l1Cur_next x60) fun r102 =>
  Option.bind (α := Int × Int × Int) (bif decide (x68 > 200) then (Option.bind (M.s_l1Cur_next (⟨x60.code, r102.2.1, r102.2.2⟩ : l1Cur)) fun r115 =>
  some (w64 ((w64 (r102.1 * 256)) + r115.1), r115.2.1, r115.2.2))
  else some (r102.1, r102.2.1, r102.2.2)) fun o111 =>
  Option.bind (gxRem o111.1 x68) fun q123 =>
  some (q123, o111.2.1, o111.2.2))
def M.s_l1Cur_among (x46 : l1Cur) (x54 : List Int) : Option (Int × Int × Int) :=
  Option.bind (M.s_l1Cur_pick x46 (x54.length : Int)) fun r124 =>
  Option.bind (gxIdx x54 r124.1) fun y128 =>
  some (y128, r124.2.1, r124.2.2)
def M.s_l1Cur_of (x157 : l1Cur) (x165 : List ByteArray) : Option (ByteArray × Int × Int) :=
  Option.bind (M.s_l1Cur_pick x157 (x165.length : Int)) fun r171 =>
  Option.bind (gxIdx x165 r171.1) fun y175 =>
  some (y175, r171.2.1, r171.2.2)
def M.s_l1Cur_event (x133 : l1Cur) (x141 : Int) : Option (Event × Int × Int) :=
  Option.bind (M.s_l1Cur_pick x133 5) fun r146 =>
  Option.bind (M.s_l1Cur_of (⟨x133.code, r146.2.1, r146.2.2⟩ : l1Cur) [(ByteArray.mk #[116, 114, 97, 112]), (ByteArray.mk #[116, 114, 97, 112]), (ByteArray.mk #[104, 97, 108, 116]), (ByteArray.mk #[105, 114, 113]), (ByteArray.mk #[119, 97, 107, 101]), (ByteArray.mk #[97]), (ByteArray.mk #[108, 111, 110, 103, 119, 111, 114, 100])]) fun r176 =>
  Option.bind (M.s_l1Cur_among (⟨x133.code, r176.2.1, r176.2.2⟩ : l1Cur) [0, 0, 1, 7, 255, 65535]) fun r187 =>
  Option.bind (M.s_l1Cur_pick (⟨x133.code, r187.2.1, r187.2.2⟩ : l1Cur) 80) fun r197 =>
  Option.bind (α := Int × Int × Int × Int × ByteArray × Int) (bif r197.1 == 0 then (Option.bind (M.s_l1Cur_among (⟨x133.code, r197.2.1, r197.2.2⟩ : l1Cur) [(-1), 100000, 100001]) fun r471 =>
  some (r471.2.1, r471.2.2, r471.1, r146.1, r176.1, r187.1))
  else (Option.bind (α := Int × Int × Int × ByteArray × Int) (bif r197.1 == 1 then (Option.bind (M.s_l1Cur_among (⟨x133.code, r197.2.1, r197.2.2⟩ : l1Cur) [(-1), 5]) fun r607 =>
  some (r607.2.1, r607.2.2, r607.1, r176.1, r187.1))
  else (Option.bind (α := Int × Int × ByteArray × Int) (bif r197.1 == 2 then (Option.bind (M.s_l1Cur_of (⟨x133.code, r197.2.1, r197.2.2⟩ : l1Cur) [(ByteArray.mk #[]), (ByteArray.mk #[65]), (ByteArray.mk #[110, 105, 110, 101, 99, 104, 97, 114, 115])]) fun r673 =>
  some (r673.2.1, r673.2.2, r673.1, r187.1))
  else (Option.bind (α := Int × Int × Int) (bif r197.1 == 3 then (Option.bind (M.s_l1Cur_among (⟨x133.code, r197.2.1, r197.2.2⟩ : l1Cur) [(-1), 65536]) fun r704 =>
  some (r704.2.1, r704.2.2, r704.1))
  else some (r197.2.1, r197.2.2, r187.1)) fun o693 =>
  some (o693.1, o693.2.1, r176.1, o693.2.2))) fun o662 =>
  some (o662.1, o662.2.1, r146.1, o662.2.2.1, o662.2.2.2))) fun o596 =>
  some (o596.1, o596.2.1, x141, o596.2.2.1, o596.2.2.2.1, o596.2.2.2.2))) fun o460 =>
  some ((⟨o460.2.2.1, o460.2.2.2.1, o460.2.2.2.2.1, o460.2.2.2.2.2⟩ : Event), o460.1, o460.2.1)
def M.s_DrawIsEvent (x25 : List Int) : Option (Event) :=
  Option.bind (M.s_l1Cur_among (⟨x25, 0, 0⟩ : l1Cur) [0, 12, 100000]) fun r129 =>
  Option.bind (M.s_l1Cur_event (⟨x25, r129.2.1, r129.2.2⟩ : l1Cur) r129.1) fun r728 =>
  some r728.1
def M.s_DrawEventText (x16 : List Int) : Option (Event) :=
  Option.bind (M.s_DrawIsEvent x16) fun r734 =>
  some r734
def M.i_inside (x761 : Int) (x762 : Int) (x763 : Int) : Option (Bool) :=
  Option.bind (α := Bool) (bif decide (x761 ≥ x762) then some (decide (x761 ≤ x763))
  else some false) fun o765 =>
  some o765
def M.i_isTick (x760 : Int) : Option (Bool) :=
  Option.bind (M.i_inside x760 0 100000) fun r773 =>
  some r773
def M.i_isParty (x782 : Int) : Option (Bool) :=
  Option.bind (M.i_inside x782 0 4) fun r783 =>
  some r783
def M.i_isWord (x793 : ByteArray) : Option (Bool) :=
  Option.bind (whileM (σ := Int) (ρ := (Unit) ⊕ (Bool)) (fun s824 =>
    bif decide (s824 < (x793.size : Int)) then (Option.bind (α := Bool) (Option.bind (gxSIdx x793 s824) fun q842 =>
    bif decide (q842 < 97) then some true
    else (Option.bind (gxSIdx x793 s824) fun q844 =>
    some (decide (q844 > 122)))) fun o839 =>
    bif o839 then some (.inr (.inr false))
    else some (.inl (w64 (s824 + 1))))
    else some (.inr (.inl ()))) gxFuel 0) fun out831 => Sum.elim (fun (o834 : Unit) =>
  Option.bind (M.i_inside (x793.size : Int) 1 10) fun r854 =>
  some r854) (fun r => some r) out831
def M.i_isEventKind (x792 : ByteArray) : Option (Bool) :=
  Option.bind (α := Bool) (Option.bind (M.i_isWord x792) fun r866 =>
  bif r866 then some (decide ((x792.size : Int) ≤ 8))
  else some false) fun o863 =>
  some o863
def M.i_isWord16 (x880 : Int) : Option (Bool) :=
  Option.bind (M.i_inside x880 0 65535) fun r881 =>
  some r881
def M.i_IsEvent (x755 : Event) : Option (Bool) :=
  Option.bind (α := Bool) (Option.bind (M.i_isTick x755.Tick) fun r892 =>
  bif r892 then (Option.bind (M.i_isParty x755.Guest) fun r897 =>
  bif r897 then (Option.bind (M.i_isEventKind x755.Kind) fun r902 =>
  bif r902 then (Option.bind (M.i_isWord16 x755.Value) fun r907 =>
  some r907)
  else some false)
  else some false)
  else some false) fun o889 =>
  some o889
def M.strconv_Itoa (x926 : Int) : Option (ByteArray) :=
  bif decide (-9223372036854775808 ≤ x926) && decide (x926 ≤ 9223372036854775807) then some (gxItoa x926)
  else none
def M.i_eventText (x920 : Event) : Option (ByteArray) :=
  Option.bind (α := ByteArray) (bif decide (x920.Guest > 0) then (Option.bind (M.strconv_Itoa x920.Guest) fun r936 =>
  Option.bind (gxSCat (ByteArray.mk #[103, 117, 101, 115, 116, 32]) r936) fun q940 =>
  some q940)
  else some (ByteArray.mk #[109, 97, 99, 104, 105, 110, 101])) fun o932 =>
  Option.bind (M.strconv_Itoa x920.Tick) fun r945 =>
  Option.bind (gxSCat r945 (ByteArray.mk #[32])) fun q949 =>
  Option.bind (gxSCat q949 o932) fun q950 =>
  Option.bind (gxSCat q950 (ByteArray.mk #[32])) fun q951 =>
  Option.bind (gxSCat q951 x920.Kind) fun q952 =>
  Option.bind (α := ByteArray) (bif decide (x920.Value > 0) then (Option.bind (M.strconv_Itoa x920.Value) fun r966 =>
  Option.bind (gxSCat (ByteArray.mk #[32]) r966) fun q970 =>
  Option.bind (gxSCat q952 q970) fun q971 =>
  some q971)
  else some q952) fun o962 =>
  some o962
def M.i_EventText (x750 : Event) : Option (ByteArray × Bool) :=
  Option.bind (M.i_IsEvent x750) fun r915 =>
  bif !r915 then some ((ByteArray.mk #[]), false)
  else (Option.bind (M.i_eventText x750) fun r976 =>
  some (r976, true))
def M.s_l1In (x995 : Int) (x996 : Int) (x997 : Int) : Option (Bool) :=
  Option.bind (α := Bool) (bif decide (x995 ≥ x996) then some (decide (x995 ≤ x997))
  else some false) fun o999 =>
  some o999
def M.s_l11Tick (x994 : Int) : Option (Bool) :=
  Option.bind (M.s_l1In x994 0 100000) fun r1007 =>
  some r1007
def M.s_l22Guest (x1016 : Int) : Option (Bool) :=
  Option.bind (M.s_l1In x1016 0 4) fun r1017 =>
  some r1017
def M.s_l22Kind (x1026 : ByteArray) : Option (Bool) :=
  Option.bind (whileM (σ := Int) (ρ := (Unit) ⊕ (Bool)) (fun s1057 =>
    bif decide (s1057 < (x1026.size : Int)) then (Option.bind (α := Bool) (Option.bind (gxSIdx x1026 s1057) fun q1075 =>
    bif decide (q1075 < 97) then some true
    else (Option.bind (gxSIdx x1026 s1057) fun q1077 =>
    some (decide (q1077 > 122)))) fun o1072 =>
    bif o1072 then some (.inr (.inr false))
    else some (.inl (w64 (s1057 + 1))))
    else some (.inr (.inl ()))) gxFuel 0) fun out1064 => Sum.elim (fun (o1067 : Unit) =>
  Option.bind (M.s_l1In (x1026.size : Int) 1 8) fun r1087 =>
  some r1087) (fun r => some r) out1064
def M.s_l22One (x989 : Event) : Option (Bool) :=
  Option.bind (α := Bool) (Option.bind (M.s_l11Tick x989.Tick) fun r1103 =>
  bif r1103 then (Option.bind (M.s_l22Guest x989.Guest) fun r1108 =>
  bif r1108 then (Option.bind (M.s_l22Kind x989.Kind) fun r1113 =>
  bif r1113 then (Option.bind (M.s_l1In x989.Value 0 65535) fun r1118 =>
  some r1118)
  else some false)
  else some false)
  else some false) fun o1100 =>
  some o1100
def M.s_l1Num : Nat → Int → Option (ByteArray)
  | 0, _ => none
  | n_ + 1, x1136 =>
    bif decide (x1136 < 0) then (Option.bind (M.s_l1Num n_ (w64 (0 - x1136))) fun r1138 =>
    Option.bind (gxSCat (ByteArray.mk #[45]) r1138) fun q1142 =>
    some q1142)
    else (bif decide (x1136 < 10) then (Option.bind (gxSSub (ByteArray.mk #[48, 49, 50, 51, 52, 53, 54, 55, 56, 57]) x1136 (w64 (x1136 + 1))) fun q1144 =>
    some q1144)
    else (Option.bind (M.s_l1Num n_ (w64 (x1136.tdiv 10))) fun r1145 =>
    Option.bind (gxSSub (ByteArray.mk #[48, 49, 50, 51, 52, 53, 54, 55, 56, 57]) (x1136.tmod 10) (w64 ((x1136.tmod 10) + 1))) fun q1149 =>
    Option.bind (gxSCat r1145 q1149) fun q1150 =>
    some q1150))
def M.s_l22Text (x1131 : Event) : Option (ByteArray) :=
  Option.bind (M.s_l1Num gxFuel x1131.Tick) fun r1153 =>
  Option.bind (gxSCat r1153 (ByteArray.mk #[32, 109, 97, 99, 104, 105, 110, 101, 32])) fun q1157 =>
  Option.bind (α := ByteArray) (bif decide (x1131.Guest > 0) then (Option.bind (M.s_l1Num gxFuel x1131.Tick) fun r1176 =>
  Option.bind (gxSCat r1176 (ByteArray.mk #[32, 103, 117, 101, 115, 116, 32])) fun q1180 =>
  Option.bind (M.s_l1Num gxFuel x1131.Guest) fun r1181 =>
  Option.bind (gxSCat q1180 r1181) fun q1185 =>
  Option.bind (gxSCat q1185 (ByteArray.mk #[32])) fun q1186 =>
  some q1186)
  else some q1157) fun o1172 =>
  Option.bind (gxSCat o1172 x1131.Kind) fun q1193 =>
  Option.bind (α := ByteArray) (bif decide (x1131.Value > 0) then (Option.bind (gxSCat q1193 (ByteArray.mk #[32])) fun q1205 =>
  Option.bind (M.s_l1Num gxFuel x1131.Value) fun r1206 =>
  Option.bind (gxSCat q1205 r1206) fun q1210 =>
  some q1210)
  else some q1193) fun o1201 =>
  some o1201
def M.s_EventText (x984 : Event) : Option (ByteArray × Bool) :=
  Option.bind (M.s_l22One x984) fun r1126 =>
  bif !r1126 then some ((ByteArray.mk #[]), false)
  else (Option.bind (M.s_l22Text x984) fun r1215 =>
  some (r1215, true))
def M.strings_Replace (x1248 : ByteArray) (x1249 : ByteArray) (x1250 : ByteArray) (x1251 : Int) : Option (ByteArray) :=
  bif decide (x1248.size ≤ 1048576) && (decide (1 ≤ x1249.size) && decide (x1250.size ≤ 1000)) then some (gxRepl x1248 x1249 x1250 x1251)
  else none
def M.strings_Split (x1256 : ByteArray) (x1257 : ByteArray) : Option ((List ByteArray)) :=
  bif decide (x1256.size ≤ 1048576) && decide (1 ≤ x1257.size) then some (gxSplit x1256 x1257)
  else none
def M.i_ParseInt (x1319 : ByteArray) : Option (Int × Bool) :=
  some (gxParse x1319)
def M.i_ParseEvent (x1243 : ByteArray) : Option (Event × Bool) :=
  Option.bind (M.strings_Replace x1243 (ByteArray.mk #[32, 109, 97, 99, 104, 105, 110, 101, 32]) (ByteArray.mk #[32, 103, 117, 101, 115, 116, 32, 48, 32]) 1) fun r1252 =>
  Option.bind (M.strings_Split r1252 (ByteArray.mk #[32])) fun r1262 =>
  Option.bind (α := List ByteArray) (bif (r1262.length : Int) == 4 then (Option.bind (gxApp 16 r1262 [(ByteArray.mk #[48])]) fun ap1303 =>
  some ap1303)
  else some r1262) fun o1287 =>
  bif (o1287.length : Int) != 5 then some ((⟨0, 0, ByteArray.empty, 0⟩ : Event), false)
  else (Option.bind (gxIdx o1287 0) fun y1318 =>
  Option.bind (M.i_ParseInt y1318) fun r1320 =>
  Option.bind (gxIdx o1287 2) fun y1324 =>
  Option.bind (M.i_ParseInt y1324) fun r1325 =>
  Option.bind (gxIdx o1287 4) fun y1329 =>
  Option.bind (M.i_ParseInt y1329) fun r1330 =>
  Option.bind (gxIdx o1287 3) fun y1334 =>
  Option.bind (α := Bool) (bif !r1320.2 then some true
  else (bif !r1325.2 then some true
  else (bif !r1330.2 then some true
  else (Option.bind (M.i_IsEvent (⟨r1320.1, r1325.1, y1334, r1330.1⟩ : Event)) fun r1359 =>
  bif !r1359 then some true
  else (Option.bind (M.i_eventText (⟨r1320.1, r1325.1, y1334, r1330.1⟩ : Event)) fun r1364 =>
  some (!(r1364.toList == x1243.toList))))))) fun o1353 =>
  bif o1353 then some ((⟨0, 0, ByteArray.empty, 0⟩ : Event), false)
  else some ((⟨r1320.1, r1325.1, y1334, r1330.1⟩ : Event), true))
def M.s_l1Cur_one (x1428 : l1Cur) (x1436 : Int) : Option (Bool × Int × Int) :=
  Option.bind (M.s_l1Cur_pick x1428 x1436) fun r1437 =>
  some (r1437.1 == 0, r1437.2.1, r1437.2.2)
def M.s_l1Cur_spoilt (x1446 : l1Cur) (x1454 : ByteArray) (x1455 : ByteArray) : Option (ByteArray × Int × Int) :=
  bif (x1454.toList == (ByteArray.mk #[]).toList) then (Option.bind (gxSSub x1455 0 1) fun q1457 =>
  some (q1457, x1446.at_, x1446.seed))
  else (Option.bind (M.s_l1Cur_pick x1446 (x1454.size : Int)) fun r1458 =>
  Option.bind (M.s_l1Cur_pick (⟨x1446.code, r1458.2.1, r1458.2.2⟩ : l1Cur) (x1455.size : Int)) fun r1462 =>
  Option.bind (gxSSub x1455 r1462.1 (x1455.size : Int)) fun q1466 =>
  Option.bind (gxSSub q1466 0 1) fun q1467 =>
  Option.bind (M.s_l1Cur_pick (⟨x1446.code, r1462.2.1, r1462.2.2⟩ : l1Cur) 3) fun r1468 =>
  bif r1468.1 == 0 then (Option.bind (gxSSub x1454 0 r1458.1) fun q1473 =>
  Option.bind (gxSCat q1473 q1467) fun q1474 =>
  Option.bind (gxSSub x1454 r1458.1 (x1454.size : Int)) fun q1475 =>
  Option.bind (gxSCat q1474 q1475) fun q1476 =>
  some (q1476, r1468.2.1, r1468.2.2))
  else (bif r1468.1 == 1 then (Option.bind (gxSSub x1454 0 r1458.1) fun q1480 =>
  Option.bind (gxSCat q1480 q1467) fun q1481 =>
  Option.bind (gxSSub x1454 (w64 (r1458.1 + 1)) (x1454.size : Int)) fun q1482 =>
  Option.bind (gxSCat q1481 q1482) fun q1483 =>
  some (q1483, r1468.2.1, r1468.2.2))
  else (Option.bind (gxSSub x1454 0 r1458.1) fun q1486 =>
  Option.bind (gxSSub x1454 (w64 (r1458.1 + 1)) (x1454.size : Int)) fun q1487 =>
  Option.bind (gxSCat q1486 q1487) fun q1488 =>
  some (q1488, r1468.2.1, r1468.2.2))))
def M.s_DrawParseEvent (x1399 : List Int) : Option (ByteArray) :=
  Option.bind (M.s_l1Cur_among (⟨x1399, 0, 0⟩ : l1Cur) [0, 12, 100000]) fun r1416 =>
  Option.bind (M.s_l1Cur_event (⟨x1399, r1416.2.1, r1416.2.2⟩ : l1Cur) r1416.1) fun r1420 =>
  Option.bind (M.s_EventText r1420.1) fun r1424 =>
  Option.bind (M.s_l1Cur_one (⟨x1399, r1420.2.1, r1420.2.2⟩ : l1Cur) 4) fun r1441 =>
  Option.bind (α := ByteArray × Int × Int) (bif r1441.1 then (Option.bind (M.s_l1Cur_spoilt (⟨x1399, r1441.2.1, r1441.2.2⟩ : l1Cur) r1424.1 (ByteArray.mk #[48, 32, 103, 109, 49, 116])) fun r1499 =>
  some (r1499.1, r1499.2.1, r1499.2.2))
  else some (r1424.1, r1441.2.1, r1441.2.2)) fun o1495 =>
  some o1495.1
def M.s_l1Split (x1526 : ByteArray) (x1527 : Int) : Option ((List ByteArray)) :=
  Option.bind (whileM (σ := List ByteArray × Int × Int) (ρ := List ByteArray × Int) (fun s1641 =>
    bif decide (s1641.2.2 < (x1526.size : Int)) then (Option.bind (gxSIdx x1526 s1641.2.2) fun q1663 =>
    Option.bind (α := List ByteArray × Int) (bif q1663 == x1527 then (Option.bind (gxSSub x1526 s1641.2.1 s1641.2.2) fun q1690 =>
    Option.bind (gxApp 16 s1641.1 [q1690]) fun ap1698 =>
    some (ap1698, w64 (s1641.2.2 + 1)))
    else some (s1641.1, s1641.2.1)) fun o1681 =>
    some (.inl (o1681.1, o1681.2, w64 (s1641.2.2 + 1))))
    else some (.inr (s1641.1, s1641.2.1))) gxFuel (([] : List ByteArray), 0, 0)) fun out1648 =>
  Option.bind (gxSSub x1526 out1648.2 (x1526.size : Int)) fun q1714 =>
  Option.bind (gxApp 16 out1648.1 [q1714]) fun ap1722 =>
  some ap1722
def M.s_l1Read (x1760 : ByteArray) : Option (Int × Bool) :=
  Option.bind (α := Bool) (bif decide ((x1760.size : Int) > 1) then (Option.bind (gxSIdx x1760 0) fun q1767 =>
  some (q1767 == 45))
  else some false) fun o1763 =>
  Option.bind (α := ByteArray) (bif o1763 then (Option.bind (gxSSub x1760 1 (x1760.size : Int)) fun q1778 =>
  some q1778)
  else some x1760) fun o1774 =>
  Option.bind (M.s_l1In (o1774.size : Int) 1 6) fun r1783 =>
  bif !r1783 then some (0, false)
  else (Option.bind (whileM (σ := Int × Int) (ρ := (Int) ⊕ (Int × Bool)) (fun s1820 =>
    bif decide (s1820.2 < (o1774.size : Int)) then (Option.bind (α := Bool) (Option.bind (gxSIdx o1774 s1820.2) fun q1838 =>
    bif decide (q1838 < 48) then some true
    else (Option.bind (gxSIdx o1774 s1820.2) fun q1840 =>
    some (decide (q1840 > 57)))) fun o1835 =>
    bif o1835 then some (.inr (.inr (0, false)))
    else (Option.bind (gxSIdx o1774 s1820.2) fun q1846 =>
    some (.inl (w64 ((w64 (10 * s1820.1)) + (w64 (IntKind.u8.wrap (q1846 - 48)))), w64 (s1820.2 + 1)))))
    else some (.inr (.inl s1820.1))) gxFuel (0, 0)) fun out1827 => Sum.elim (fun (o1830 : Int) =>
  Option.bind (α := Int) (bif decide ((o1774.size : Int) < (x1760.size : Int)) then some (w64 (0 - o1830))
  else some o1830) fun o1852 =>
  Option.bind (M.s_l1Num gxFuel o1852) fun r1860 =>
  bif !(r1860.toList == x1760.toList) then some (0, false)
  else some (o1852, true)) (fun r => some r) out1827)
def M.s_ParseEvent (x1521 : ByteArray) : Option (Event × Bool) :=
  Option.bind (M.s_l1Split x1521 32) fun r1730 =>
  Option.bind (α := Bool) (bif decide ((x1521.size : Int) > 40) then some true
  else (bif decide ((r1730.length : Int) < 3) then some true
  else some (decide ((r1730.length : Int) > 5)))) fun o1741 =>
  bif o1741 then some ((⟨0, 0, ByteArray.empty, 0⟩ : Event), false)
  else (Option.bind (gxIdx r1730 0) fun y1759 =>
  Option.bind (M.s_l1Read y1759) fun r1865 =>
  Option.bind (gxSlice r1730 2 (r1730.length : Int)) fun ys1871 =>
  Option.bind (gxIdx r1730 1) fun y1873 =>
  Option.bind (α := List ByteArray × Int) (bif (y1873.toList == (ByteArray.mk #[103, 117, 101, 115, 116]).toList) then (Option.bind (gxIdx r1730 2) fun y1893 =>
  Option.bind (M.s_l1Read y1893) fun r1894 =>
  Option.bind (gxSlice r1730 3 (r1730.length : Int)) fun ys1900 =>
  some (ys1900, r1894.1))
  else some (ys1871, 0)) fun o1884 =>
  Option.bind (α := Bool) (bif (o1884.1.length : Int) == 0 then some true
  else some (decide ((o1884.1.length : Int) > 2))) fun o1907 =>
  bif o1907 then some ((⟨0, 0, ByteArray.empty, 0⟩ : Event), false)
  else (Option.bind (gxIdx o1884.1 0) fun y1918 =>
  Option.bind (α := Int) (bif (o1884.1.length : Int) == 2 then (Option.bind (gxIdx o1884.1 1) fun y1933 =>
  Option.bind (M.s_l1Read y1933) fun r1934 =>
  some r1934.1)
  else some 0) fun o1929 =>
  Option.bind (α := Bool) (Option.bind (M.s_l22One (⟨r1865.1, o1884.2, y1918, o1929⟩ : Event)) fun r1956 =>
  bif !r1956 then some true
  else (Option.bind (M.s_l22Text (⟨r1865.1, o1884.2, y1918, o1929⟩ : Event)) fun r1961 =>
  some (!(r1961.toList == x1521.toList)))) fun o1953 =>
  bif o1953 then some ((⟨0, 0, ByteArray.empty, 0⟩ : Event), false)
  else some ((⟨r1865.1, o1884.2, y1918, o1929⟩ : Event), true)))
def M.s_l1Least (x2075 : Int) (x2076 : Int) : Option (Int) :=
  bif decide (x2075 < x2076) then some x2075
  else some x2076
def M.s_l1Cur_record22 (x2009 : l1Cur) : Option ((List Event) × Int × Int) :=
  Option.bind (M.s_l1Cur_among x2009 [0, 3, 99990]) fun r2036 =>
  Option.bind (M.s_l1Cur_pick (⟨x2009.code, r2036.2.1, r2036.2.2⟩ : l1Cur) 9) fun r2040 =>
  Option.bind (whileM (σ := List Event × Int × Int × Int × Int) (ρ := List Event × Int × Int) (fun s2122 =>
    bif decide (s2122.2.2.1 > 0) then (Option.bind (M.s_l1Cur_event (⟨x2009.code, s2122.2.2.2.1, s2122.2.2.2.2⟩ : l1Cur) s2122.2.1) fun r2144 =>
    Option.bind (gxApp 40 s2122.1 [r2144.1]) fun ap2155 =>
    Option.bind (M.s_l1Cur_among (⟨x2009.code, r2144.2.1, r2144.2.2⟩ : l1Cur) [0, 0, 1, 5, 30]) fun r2170 =>
    Option.bind (M.s_l1Least 100000 (w64 (s2122.2.1 + r2170.1))) fun r2174 =>
    some (.inl (ap2155, r2174, w64 (s2122.2.2.1 - 1), r2170.2.1, r2170.2.2)))
    else some (.inr (s2122.1, s2122.2.2.2.1, s2122.2.2.2.2))) gxFuel (([] : List Event), r2036.1, r2040.1, r2040.2.1, r2040.2.2)) fun out2129 =>
  Option.bind (M.s_l1Cur_pick (⟨x2009.code, out2129.2.1, out2129.2.2⟩ : l1Cur) 30) fun r2182 =>
  Option.bind (α := List Event × Int × Int) (bif r2182.1 == 0 then (Option.bind (M.s_l1Cur_event (⟨x2009.code, r2182.2.1, r2182.2.2⟩ : l1Cur) 1) fun r2409 =>
  Option.bind (gxApp 40 out2129.1 [r2409.1]) fun ap2420 =>
  some (ap2420, r2409.2.1, r2409.2.2))
  else (Option.bind (α := List Event × Int × Int) (bif r2182.1 == 1 then (Option.bind (whileM (σ := List Event × Int × Int) (ρ := List Event × Int × Int) (fun s2573 =>
    Option.bind (M.s_l1Cur_pick (⟨x2009.code, s2573.2.1, s2573.2.2⟩ : l1Cur) 2) fun r2594 =>
    bif decide ((s2573.1.length : Int) < (w64 (30 + r2594.1))) then (Option.bind (gxApp 40 s2573.1 [(⟨100000, 0, (ByteArray.mk #[120]), 0⟩ : Event)]) fun ap2606 =>
    some (.inl (ap2606, r2594.2.1, r2594.2.2)))
    else some (.inr (s2573.1, r2594.2.1, r2594.2.2))) gxFuel (out2129.1, r2182.2.1, r2182.2.2)) fun out2580 =>
  some (out2580.1, out2580.2.1, out2580.2.2))
  else some (out2129.1, r2182.2.1, r2182.2.2)) fun o2519 =>
  some (o2519.1, o2519.2.1, o2519.2.2))) fun o2400 =>
  some (o2400.1, o2400.2.1, o2400.2.2)
def M.s_l1Cur_guest22 (x2635 : l1Cur) : Option (Int × Int × Int) :=
  Option.bind (M.s_l1Cur_pick x2635 24) fun r2650 =>
  Option.bind (gxSlice [0, 1, 2, 3, 4, (-1), 5] 0 (w64 (5 + (w64 (r2650.1.tdiv 11))))) fun ys2654 =>
  Option.bind (M.s_l1Cur_among (⟨x2635.code, r2650.2.1, r2650.2.2⟩ : l1Cur) ys2654) fun r2656 =>
  some (r2656.1, r2656.2.1, r2656.2.2)
def M.s_DrawEventsOf (x1994 : List Int) : Option ((List Event) × Int) :=
  Option.bind (M.s_l1Cur_record22 (⟨x1994, 0, 0⟩ : l1Cur)) fun r2626 =>
  Option.bind (M.s_l1Cur_guest22 (⟨x1994, r2626.2.1, r2626.2.2⟩ : l1Cur)) fun r2660 =>
  some (r2626.1, r2660.1)
def M.i_IsRecord (x2688 : List Event) : Option (Bool) :=
  Option.bind (whileM (σ := Int) (ρ := (Unit) ⊕ (Bool)) (fun s2777 =>
    bif decide (s2777 < (x2688.length : Int)) then (Option.bind (gxIdx x2688 s2777) fun y2789 =>
    Option.bind (α := Bool) (Option.bind (M.i_IsEvent y2789) fun r2812 =>
    bif !r2812 then some true
    else (bif decide (s2777 > 0) then (Option.bind (gxIdx x2688 (w64 (s2777 - 1))) fun y2820 =>
    some (decide (y2820.Tick > y2789.Tick)))
    else some false)) fun o2809 =>
    bif o2809 then some (.inr (.inr false))
    else some (.inl (w64 (s2777 + 1))))
    else some (.inr (.inl ()))) gxFuel 0) fun out2784 => Sum.elim (fun (o2787 : Unit) =>
  some (decide ((x2688.length : Int) ≤ 30))) (fun r => some r) out2784
def M.i_EventsOf_1 (x2937 : Event) (x2938 : Int) : Option (Bool) :=
  some (x2937.Guest == x2938)
def M.i_eventsWhere_1__i_EventsOf_1 (x2925 : Event) (x2926 : Int) : Option (Bool) :=
  Option.bind (M.i_EventsOf_1 x2925 x2926) fun r2946 =>
  some (!r2946)
def M.slices_IndexFunc_83__i_eventsWhere_1__i_EventsOf_1 (x2911 : List Event) (x2916 : Int) : Option (Int) :=
  Option.bind (whileM (σ := Int) (ρ := (Unit) ⊕ (Int)) (fun s2962 =>
    bif decide (s2962 < (x2911.length : Int)) then (Option.bind (gxIdx x2911 s2962) fun y2974 =>
    Option.bind (M.i_eventsWhere_1__i_EventsOf_1 y2974 x2916) fun r2975 =>
    bif r2975 then some (.inr (.inr s2962))
    else some (.inl (w64 (s2962 + 1))))
    else some (.inr (.inl ()))) gxFuel 0) fun out2969 => Sum.elim (fun (o2972 : Unit) =>
  some (-1)) (fun r => some r) out2969
def M.slices_DeleteFunc_68__i_eventsWhere_1__i_EventsOf_1 (x3015 : List Event) (x3021 : Int) : Option ((List Event) × (List Event)) :=
  Option.bind (M.slices_IndexFunc_83__i_eventsWhere_1__i_EventsOf_1 x3015 x3021) fun r3035 =>
  bif r3035 == (-1) then some (x3015, x3015)
  else (Option.bind (whileM (σ := Int × Int × List Event) (ρ := Int × List Event) (fun s3111 =>
    bif decide (s3111.2.1 < (s3111.2.2.length : Int)) then (Option.bind (gxIdx s3111.2.2 s3111.2.1) fun y3129 =>
    Option.bind (M.i_eventsWhere_1__i_EventsOf_1 y3129 x3021) fun r3136 =>
    Option.bind (α := Int × List Event) (bif !r3136 then (Option.bind (gxIdx s3111.2.2 s3111.1) fun y3153 =>
    some (w64 (s3111.1 + 1), (s3111.2.2.set s3111.1.toNat y3129)))
    else some (s3111.1, s3111.2.2)) fun o3146 =>
    some (.inl (o3146.1, w64 (s3111.2.1 + 1), o3146.2)))
    else some (.inr (s3111.1, s3111.2.2))) gxFuel (r3035, w64 (r3035 + 1), x3015)) fun out3118 =>
  Option.bind (gxSlice out3118.2 out3118.1 (out3118.2.length : Int)) fun ys3166 =>
  Option.bind (gxSlice (gxClear out3118.2 out3118.1 (out3118.2.length : Int) ((⟨0, 0, ByteArray.empty, 0⟩ : Event) : Event)) 0 out3118.1) fun ys3172 =>
  some (ys3172, (gxClear out3118.2 out3118.1 (out3118.2.length : Int) ((⟨0, 0, ByteArray.empty, 0⟩ : Event) : Event))))
def M.i_eventsWhere__i_EventsOf_1 (x2861 : List Event) (x2866 : Int) : Option ((List Event)) :=
  Option.bind (gxApp 40 ([] : List Event) x2861) fun ap2886 =>
  Option.bind (M.slices_DeleteFunc_68__i_eventsWhere_1__i_EventsOf_1 ap2886 x2866) fun r3174 =>
  some r3174.1
def M.i_EventsOf (x2673 : List Event) (x2678 : Int) : Option ((List Event) × Bool) :=
  Option.bind (α := Bool) (Option.bind (M.i_IsRecord x2673) fun r2846 =>
  bif !r2846 then some true
  else (Option.bind (M.i_isParty x2678) fun r2851 =>
  some (!r2851))) fun o2843 =>
  bif o2843 then some (([] : List Event), false)
  else (Option.bind (M.i_eventsWhere__i_EventsOf_1 x2673 x2678) fun r3188 =>
  some (r3188, true))
def M.s_l22Good (x3224 : List Event) : Option (Bool) :=
  Option.bind (whileM (σ := Int) (ρ := (Unit) ⊕ (Bool)) (fun s3307 =>
    bif decide (s3307 < (x3224.length : Int)) then (Option.bind (α := Bool) (Option.bind (gxIdx x3224 s3307) fun y3337 =>
    Option.bind (M.s_l22One y3337) fun r3338 =>
    bif !r3338 then some true
    else (bif decide (s3307 > 0) then (Option.bind (gxIdx x3224 (w64 (s3307 - 1))) fun y3346 =>
    Option.bind (gxIdx x3224 s3307) fun y3347 =>
    some (decide (y3346.Tick > y3347.Tick)))
    else some false)) fun o3334 =>
    bif o3334 then some (.inr (.inr false))
    else some (.inl (w64 (s3307 + 1))))
    else some (.inr (.inl ()))) gxFuel 0) fun out3314 => Sum.elim (fun (o3317 : Unit) =>
  some (decide ((x3224.length : Int) ≤ 30))) (fun r => some r) out3314
def M.s_EventsOf (x3206 : List Event) (x3211 : Int) : Option ((List Event) × Bool) :=
  Option.bind (α := Bool) (Option.bind (M.s_l22Good x3206) fun r3373 =>
  bif !r3373 then some true
  else (Option.bind (M.s_l22Guest x3211) fun r3378 =>
  some (!r3378))) fun o3370 =>
  bif o3370 then some (([] : List Event), false)
  else (Option.bind (whileM (σ := List Event × Int) (ρ := List Event) (fun s3488 =>
    bif decide (s3488.2 < (x3206.length : Int)) then (Option.bind (gxIdx x3206 s3488.2) fun y3510 =>
    Option.bind (α := List Event) (bif y3510.Guest == x3211 then (Option.bind (gxIdx x3206 s3488.2) fun y3537 =>
    Option.bind (gxApp 40 s3488.1 [y3537]) fun ap3545 =>
    some ap3545)
    else some s3488.1) fun o3528 =>
    some (.inl (o3528, w64 (s3488.2 + 1))))
    else some (.inr s3488.1)) gxFuel (([] : List Event), 0)) fun out3495 =>
  some (out3495, true))
def M.l_rEvents (x3571 : List Event) (x3576 : List Event) : Option (Bool) :=
  bif (x3571.length : Int) != (x3576.length : Int) then some false
  else (Option.bind (whileM (σ := Int) (ρ := (Unit) ⊕ (Bool)) (fun s3594 =>
    bif decide (s3594 < (x3571.length : Int)) then (Option.bind (gxIdx x3571 s3594) fun y3606 =>
    Option.bind (gxIdx x3576 s3594) fun y3607 =>
    bif !((y3606.Tick == y3607.Tick) && ((y3606.Guest == y3607.Guest) && ((y3606.Kind.toList == y3607.Kind.toList) && ((y3606.Value == y3607.Value) && true)))) then some (.inr (.inr false))
    else some (.inl (w64 (s3594 + 1))))
    else some (.inr (.inl ()))) gxFuel 0) fun out3601 => Sum.elim (fun (o3604 : Unit) =>
  some true) (fun r => some r) out3601)
def M.slices_Sort_46 (x3821 : List ByteArray) : Option ((List ByteArray)) :=
  bif decide (x3821.length < 4611686018427387904) then some (gxSortS x3821)
  else none
def M.slices_Compact_47 (x3855 : List ByteArray) : Option ((List ByteArray) × (List ByteArray)) :=
  bif decide (x3855.length < 4611686018427387904) then some (gxCompS x3855, gxCompW x3855)
  else none
def M.i_CountKinds_1 (x3966 : Event) (x3967 : ByteArray) : Option (Bool) :=
  some (x3966.Kind.toList == x3967.toList)
def M.i_eventsWhere_1__i_CountKinds_1 (x3954 : Event) (x3955 : ByteArray) : Option (Bool) :=
  Option.bind (M.i_CountKinds_1 x3954 x3955) fun r3975 =>
  some (!r3975)
def M.slices_IndexFunc_83__i_eventsWhere_1__i_CountKinds_1 (x3940 : List Event) (x3945 : ByteArray) : Option (Int) :=
  Option.bind (whileM (σ := Int) (ρ := (Unit) ⊕ (Int)) (fun s3991 =>
    bif decide (s3991 < (x3940.length : Int)) then (Option.bind (gxIdx x3940 s3991) fun y4003 =>
    Option.bind (M.i_eventsWhere_1__i_CountKinds_1 y4003 x3945) fun r4004 =>
    bif r4004 then some (.inr (.inr s3991))
    else some (.inl (w64 (s3991 + 1))))
    else some (.inr (.inl ()))) gxFuel 0) fun out3998 => Sum.elim (fun (o4001 : Unit) =>
  some (-1)) (fun r => some r) out3998
def M.slices_DeleteFunc_68__i_eventsWhere_1__i_CountKinds_1 (x3920 : List Event) (x3926 : ByteArray) : Option ((List Event) × (List Event)) :=
  Option.bind (M.slices_IndexFunc_83__i_eventsWhere_1__i_CountKinds_1 x3920 x3926) fun r4013 =>
  bif r4013 == (-1) then some (x3920, x3920)
  else (Option.bind (whileM (σ := Int × Int × List Event) (ρ := Int × List Event) (fun s4089 =>
    bif decide (s4089.2.1 < (s4089.2.2.length : Int)) then (Option.bind (gxIdx s4089.2.2 s4089.2.1) fun y4107 =>
    Option.bind (M.i_eventsWhere_1__i_CountKinds_1 y4107 x3926) fun r4114 =>
    Option.bind (α := Int × List Event) (bif !r4114 then (Option.bind (gxIdx s4089.2.2 s4089.1) fun y4131 =>
    some (w64 (s4089.1 + 1), (s4089.2.2.set s4089.1.toNat y4107)))
    else some (s4089.1, s4089.2.2)) fun o4124 =>
    some (.inl (o4124.1, w64 (s4089.2.1 + 1), o4124.2)))
    else some (.inr (s4089.1, s4089.2.2))) gxFuel (r4013, w64 (r4013 + 1), x3920)) fun out4096 =>
  Option.bind (gxSlice out4096.2 out4096.1 (out4096.2.length : Int)) fun ys4144 =>
  Option.bind (gxSlice (gxClear out4096.2 out4096.1 (out4096.2.length : Int) ((⟨0, 0, ByteArray.empty, 0⟩ : Event) : Event)) 0 out4096.1) fun ys4150 =>
  some (ys4150, (gxClear out4096.2 out4096.1 (out4096.2.length : Int) ((⟨0, 0, ByteArray.empty, 0⟩ : Event) : Event))))
def M.i_eventsWhere__i_CountKinds_1 (x3887 : List Event) (x3892 : ByteArray) : Option ((List Event)) :=
  Option.bind (gxApp 40 ([] : List Event) x3887) fun ap3912 =>
  Option.bind (M.slices_DeleteFunc_68__i_eventsWhere_1__i_CountKinds_1 ap3912 x3892) fun r4152 =>
  some r4152.1
def M.i_CountKinds (x3681 : List Event) : Option ((List ByteArray) × (List Int) × Bool) :=
  Option.bind (M.i_IsRecord x3681) fun r3696 =>
  bif !r3696 then some (([] : List ByteArray), ([] : List Int), false)
  else (Option.bind (whileM (σ := List ByteArray × Int) (ρ := List ByteArray) (fun s3768 =>
    bif decide (s3768.2 < (x3681.length : Int)) then (Option.bind (gxIdx x3681 s3768.2) fun y3790 =>
    Option.bind (gxApp 16 s3768.1 [y3790.Kind]) fun ap3804 =>
    some (.inl (ap3804, w64 (s3768.2 + 1))))
    else some (.inr s3768.1)) gxFuel (([] : List ByteArray), 0)) fun out3775 =>
  Option.bind (M.slices_Sort_46 out3775) fun r3828 =>
  Option.bind (M.slices_Compact_47 r3828) fun r3865 =>
  Option.bind (whileM (σ := List Int × Int) (ρ := List Int) (fun s4227 =>
    bif decide (s4227.2 < (r3865.1.length : Int)) then (Option.bind (gxIdx r3865.1 s4227.2) fun y4249 =>
    Option.bind (M.i_eventsWhere__i_CountKinds_1 x3681 y4249) fun r4256 =>
    Option.bind (gxApp 8 s4227.1 [(r4256.length : Int)]) fun ap4272 =>
    some (.inl (ap4272, w64 (s4227.2 + 1))))
    else some (.inr s4227.1)) gxFuel (([] : List Int), 0)) fun out4234 =>
  some (r3865.1, out4234, true))
def M.l_rSum (x4300 : List Int) : Option (Int) :=
  Option.bind (whileM (σ := Int × Int) (ρ := Int) (fun s4309 =>
    bif decide (s4309.2 < (x4300.length : Int)) then (Option.bind (gxIdx x4300 s4309.2) fun y4321 =>
    some (.inl (w64 (s4309.1 + y4321), w64 (s4309.2 + 1))))
    else some (.inr s4309.1)) gxFuel (0, 0)) fun out4316 =>
  some out4316
def M.s_DrawIsRecord (x4449 : List Int) : Option ((List Event)) :=
  Option.bind (M.s_l1Cur_record22 (⟨x4449, 0, 0⟩ : l1Cur)) fun r4464 =>
  some r4464.1
def M.s_DrawCountKinds (x4439 : List Int) : Option ((List Event)) :=
  Option.bind (M.s_DrawIsRecord x4439) fun r4473 =>
  some r4473
def M.s_CountKinds (x4505 : List Event) : Option ((List ByteArray) × (List Int) × Bool) :=
  Option.bind (M.s_l22Good x4505) fun r4534 =>
  bif !r4534 then some (([] : List ByteArray), ([] : List Int), false)
  else (Option.bind (whileM (σ := List ByteArray × List Int × Int × List Int) (ρ := List ByteArray × List Int × List Int) (fun s5743 =>
    bif decide (s5743.2.2.1 < (x4505.length : Int)) then (Option.bind (α := List ByteArray × List Int × List Int) (Option.bind (whileM (σ := Int) (ρ := Int) (fun s6126 =>
      Option.bind (α := Bool) (bif decide (s6126 < (s5743.1.length : Int)) then (Option.bind (gxIdx s5743.1 s6126) fun y6148 =>
      Option.bind (gxIdx x4505 s5743.2.2.1) fun y6149 =>
      some (Op.bytesLess y6148.toList y6149.Kind.toList))
      else some false) fun o6144 =>
      bif o6144 then some (.inl (w64 (s6126 + 1)))
      else some (.inr s6126)) gxFuel 0) fun out6133 =>
    Option.bind (α := Bool) (bif decide (out6133 < (s5743.1.length : Int)) then (Option.bind (gxIdx s5743.1 out6133) fun y6174 =>
    Option.bind (gxIdx x4505 s5743.2.2.1) fun y6175 =>
    some (y6174.toList == y6175.Kind.toList))
    else some false) fun o6170 =>
    bif o6170 then (Option.bind (gxIdx s5743.2.1 out6133) fun y6185 =>
    Option.bind (gxIdx s5743.2.1 out6133) fun y6186 =>
    some (s5743.1, (s5743.2.1.set out6133.toNat (w64 (y6185 + 1))), (s5743.2.1.set out6133.toNat (w64 (y6185 + 1)))))
    else (Option.bind (gxSlice s5743.1 0 out6133) fun ys6198 =>
    Option.bind (gxApp 16 ([] : List ByteArray) ys6198) fun ap6200 =>
    Option.bind (gxIdx x4505 s5743.2.2.1) fun y6206 =>
    Option.bind (gxApp 16 ap6200 [y6206.Kind]) fun ap6212 =>
    Option.bind (gxSlice s5743.1 out6133 (s5743.1.length : Int)) fun ys6218 =>
    Option.bind (gxApp 16 ap6212 ys6218) fun ap6283 =>
    Option.bind (gxSlice s5743.2.1 0 out6133) fun ys6298 =>
    Option.bind (gxApp 8 ([] : List Int) ys6298) fun ap6300 =>
    Option.bind (gxApp 8 ap6300 [1]) fun ap6311 =>
    Option.bind (gxSlice s5743.2.1 out6133 (s5743.2.1.length : Int)) fun ys6317 =>
    Option.bind (gxApp 8 ap6311 ys6317) fun ap6362 =>
    some (ap6283, ap6362, s5743.2.1))) fun o6067 =>
    some (.inl (o6067.1, o6067.2.1, w64 (s5743.2.2.1 + 1), s5743.2.2.2)))
    else some (.inr (s5743.1, s5743.2.1, s5743.2.2.2))) gxFuel (([] : List ByteArray), ([] : List Int), 0, ([] : List Int))) fun out5750 =>
  some (out5750.1, out5750.2.1, true))
def M.l_rTexts (x6393 : List ByteArray) (x6398 : List ByteArray) : Option (Bool) :=
  bif (x6393.length : Int) != (x6398.length : Int) then some false
  else (Option.bind (whileM (σ := Int) (ρ := (Unit) ⊕ (Bool)) (fun s6416 =>
    bif decide (s6416 < (x6393.length : Int)) then (Option.bind (gxIdx x6393 s6416) fun y6428 =>
    Option.bind (gxIdx x6398 s6416) fun y6429 =>
    bif !(y6428.toList == y6429.toList) then some (.inr (.inr false))
    else some (.inl (w64 (s6416 + 1))))
    else some (.inr (.inl ()))) gxFuel 0) fun out6423 => Sum.elim (fun (o6426 : Unit) =>
  some true) (fun r => some r) out6423)
def M.l_rInts (x6442 : List Int) (x6447 : List Int) : Option (Bool) :=
  bif (x6442.length : Int) != (x6447.length : Int) then some false
  else (Option.bind (whileM (σ := Int) (ρ := (Unit) ⊕ (Bool)) (fun s6465 =>
    bif decide (s6465 < (x6442.length : Int)) then (Option.bind (gxIdx x6442 s6465) fun y6477 =>
    Option.bind (gxIdx x6447 s6465) fun y6478 =>
    bif y6477 != y6478 then some (.inr (.inr false))
    else some (.inl (w64 (s6465 + 1))))
    else some (.inr (.inl ()))) gxFuel 0) fun out6472 => Sum.elim (fun (o6475 : Unit) =>
  some true) (fun r => some r) out6472)
def M.l_FnEvents (x1 : List Int) : Option (Bool) :=
  Option.bind (M.l_rBig x1) fun r11 =>
  bif r11 then some true
  else (Option.bind (M.s_DrawEventText x1) fun r740 =>
  Option.bind (M.i_EventText r740) fun r980 =>
  Option.bind (M.s_EventText r740) fun r1219 =>
  Option.bind (α := Bool) (bif !(r980.1.toList == r1219.1.toList) then some true
  else (bif !(r980.2 == r1219.2) then some true
  else (Option.bind (M.i_IsEvent r740) fun r1234 =>
  some (!(r980.2 == r1234))))) fun o1229 =>
  bif o1229 then some false
  else (Option.bind (M.i_ParseEvent r980.1) fun r1377 =>
  Option.bind (α := Bool) (bif r980.2 then (bif !r1377.2 then some true
  else some (!((r1377.1.Tick == r740.Tick) && ((r1377.1.Guest == r740.Guest) && ((r1377.1.Kind.toList == r740.Kind.toList) && ((r1377.1.Value == r740.Value) && true))))))
  else some false) fun o1389 =>
  bif o1389 then some false
  else (Option.bind (M.s_DrawParseEvent x1) fun r1507 =>
  Option.bind (M.i_ParseEvent r1507) fun r1511 =>
  Option.bind (M.s_ParseEvent r1507) fun r1974 =>
  Option.bind (α := Bool) (bif !((r1511.1.Tick == r1974.1.Tick) && ((r1511.1.Guest == r1974.1.Guest) && ((r1511.1.Kind.toList == r1974.1.Kind.toList) && ((r1511.1.Value == r1974.1.Value) && true)))) then some true
  else some (!(r1511.2 == r1974.2))) fun o1985 =>
  bif o1985 then some false
  else (Option.bind (M.s_DrawEventsOf x1) fun r2664 =>
  Option.bind (M.i_EventsOf r2664.1 r2664.2) fun r3197 =>
  Option.bind (M.s_EventsOf r2664.1 r2664.2) fun r3561 =>
  Option.bind (α := Bool) (bif !(r3197.2 == r3561.2) then some true
  else (Option.bind (M.l_rEvents r3197.1 r3561.1) fun r3623 =>
  some (!r3623))) fun o3619 =>
  bif o3619 then some false
  else (Option.bind (α := (Unit) ⊕ (Bool)) (bif r3197.2 then (Option.bind (whileM (σ := Int × Int) (ρ := (Int) ⊕ (Bool)) (fun s4373 =>
    bif decide (s4373.2 ≤ 4) then (Option.bind (M.i_EventsOf r2664.1 s4373.2) fun r4385 =>
    bif !r4385.2 then some (.inr (.inr false))
    else some (.inl (w64 (s4373.1 + (r4385.1.length : Int)), w64 (s4373.2 + 1))))
    else some (.inr (.inl s4373.1))) gxFuel (0, 0)) fun out4380 => Sum.elim (fun (o4383 : Int) =>
  Option.bind (M.i_CountKinds r2664.1) fun r4399 =>
  Option.bind (α := Bool) (bif o4383 != (r2664.1.length : Int) then some true
  else (bif !r4399.2.2 then some true
  else (Option.bind (M.l_rSum r4399.2.1) fun r4425 =>
  bif r4425 != o4383 then some true
  else some ((r4399.1.length : Int) != (r4399.2.1.length : Int))))) fun o4420 =>
  bif o4420 then some (.inr false)
  else some (.inl ())) (fun r => some (.inr r)) out4380)
  else some (.inl ())) fun out4349 => Sum.elim (fun (o4346 : Unit) =>
  Option.bind (M.s_DrawCountKinds x1) fun r4482 =>
  Option.bind (M.i_CountKinds r4482) fun r4491 =>
  Option.bind (M.s_CountKinds r4482) fun r6378 =>
  Option.bind (α := Bool) (bif r4491.2.2 == r6378.2.2 then (Option.bind (M.l_rTexts r4491.1 r6378.1) fun r6494 =>
  bif r6494 then (Option.bind (M.l_rInts r4491.2.1 r6378.2.1) fun r6499 =>
  some r6499)
  else some false)
  else some false) fun o6490 =>
  some o6490) (fun r => some r) out4349)))))
end Go.Proofs.YtimffallbjpcjaaGreatDoor
