/- The models of the functions, printed by program: what each computes, in plain Lean. -/
import Derived.Test.YtfcebglkdfadcaaGxK
set_option linter.unusedVariables false
set_option maxRecDepth 100000
set_option maxHeartbeats 4000000
namespace Go.Proofs.Ytfcebglkdfadcaa
open Go.Gx
structure Event where
  Tick : Int
  Guest : Int
  Kind : ByteArray
  Value : Int
def encEvent : Enc Event := ⟨fun x => [.int .i64 x.Tick, .int .i64 x.Guest, .string x.Kind, .int .i64 x.Value], 4, fun _ => rfl, by simp [Value.oneCell']⟩
structure l1Cur where
  code : List Int
  at_ : Int
  seed : Int
def M.l_szEvent (x6 : Event) (x7 : Int) : Option (Int) :=
  bif decide ((w64 (x7 - (x6.Kind.size : Int))) < 0) then some (-1)
  else some (w64 (x7 - (x6.Kind.size : Int)))
def M.l_toEvent (x18 : Event) : Option (Event) :=
  some x18
def M.s_l1In (x56 : Int) (x57 : Int) (x58 : Int) : Option (Bool) :=
  Option.bind (α := Bool) (bif decide (x56 ≥ x57) then some (decide (x56 ≤ x58))
  else some false) fun o60 =>
  some o60
def M.s_l11Tick (x55 : Int) : Option (Bool) :=
  Option.bind (M.s_l1In x55 0 100000) fun r68 =>
  some r68
def M.s_l22Guest (x77 : Int) : Option (Bool) :=
  Option.bind (M.s_l1In x77 0 4) fun r78 =>
  some r78
def M.s_l22Kind (x87 : ByteArray) : Option (Bool) :=
  Option.bind (whileM (σ := Int) (ρ := (Unit) ⊕ (Bool)) (fun s118 =>
    bif decide (s118 < (x87.size : Int)) then (Option.bind (α := Bool) (Option.bind (gxSIdx x87 s118) fun q136 =>
    bif decide (q136 < 97) then some true
    else (Option.bind (gxSIdx x87 s118) fun q138 =>
    some (decide (q138 > 122)))) fun o133 =>
    bif o133 then some (.inr (.inr false))
    else some (.inl (w64 (s118 + 1))))
    else some (.inr (.inl ()))) gxFuel 0) fun out125 => Sum.elim (fun (o128 : Unit) =>
  Option.bind (M.s_l1In (x87.size : Int) 1 8) fun r148 =>
  some r148) (fun r => some r) out125
def M.s_l22One (x50 : Event) : Option (Bool) :=
  Option.bind (α := Bool) (Option.bind (M.s_l11Tick x50.Tick) fun r164 =>
  bif r164 then (Option.bind (M.s_l22Guest x50.Guest) fun r169 =>
  bif r169 then (Option.bind (M.s_l22Kind x50.Kind) fun r174 =>
  bif r174 then (Option.bind (M.s_l1In x50.Value 0 65535) fun r179 =>
  some r179)
  else some false)
  else some false)
  else some false) fun o161 =>
  some o161
def M.s_IsEvent (x45 : Event) : Option (Bool) :=
  Option.bind (M.s_l22One x45) fun r187 =>
  some r187
def M.i_inside (x205 : Int) (x206 : Int) (x207 : Int) : Option (Bool) :=
  Option.bind (α := Bool) (bif decide (x205 ≥ x206) then some (decide (x205 ≤ x207))
  else some false) fun o209 =>
  some o209
def M.i_isTick (x204 : Int) : Option (Bool) :=
  Option.bind (M.i_inside x204 0 100000) fun r217 =>
  some r217
def M.i_isParty (x226 : Int) : Option (Bool) :=
  Option.bind (M.i_inside x226 0 4) fun r227 =>
  some r227
def M.i_isWord (x237 : ByteArray) : Option (Bool) :=
  Option.bind (whileM (σ := Int) (ρ := (Unit) ⊕ (Bool)) (fun s268 =>
    bif decide (s268 < (x237.size : Int)) then (Option.bind (α := Bool) (Option.bind (gxSIdx x237 s268) fun q286 =>
    bif decide (q286 < 97) then some true
    else (Option.bind (gxSIdx x237 s268) fun q288 =>
    some (decide (q288 > 122)))) fun o283 =>
    bif o283 then some (.inr (.inr false))
    else some (.inl (w64 (s268 + 1))))
    else some (.inr (.inl ()))) gxFuel 0) fun out275 => Sum.elim (fun (o278 : Unit) =>
  Option.bind (M.i_inside (x237.size : Int) 1 10) fun r298 =>
  some r298) (fun r => some r) out275
def M.i_isEventKind (x236 : ByteArray) : Option (Bool) :=
  Option.bind (α := Bool) (Option.bind (M.i_isWord x236) fun r310 =>
  bif r310 then some (decide ((x236.size : Int) ≤ 8))
  else some false) fun o307 =>
  some o307
def M.i_isWord16 (x324 : Int) : Option (Bool) :=
  Option.bind (M.i_inside x324 0 65535) fun r325 =>
  some r325
def M.i_IsEvent (x199 : Event) : Option (Bool) :=
  Option.bind (α := Bool) (Option.bind (M.i_isTick x199.Tick) fun r336 =>
  bif r336 then (Option.bind (M.i_isParty x199.Guest) fun r341 =>
  bif r341 then (Option.bind (M.i_isEventKind x199.Kind) fun r346 =>
  bif r346 then (Option.bind (M.i_isWord16 x199.Value) fun r351 =>
  some r351)
  else some false)
  else some false)
  else some false) fun o333 =>
  some o333
def M.l_FnExactIsEvent (x1 : Event) : Option (Bool) :=
  Option.bind (M.l_szEvent x1 1048576) fun r13 =>
  bif decide (r13 < 0) then some true
  else (Option.bind (M.l_toEvent x1) fun r41 =>
  Option.bind (M.s_IsEvent r41) fun r191 =>
  Option.bind (M.l_toEvent x1) fun r195 =>
  Option.bind (M.i_IsEvent r195) fun r359 =>
  bif !(r359 == r191) then some false
  else some true)
def M.l_szEventS (x369 : List Event) (x374 : Int) : Option (Int) :=
  bif decide ((w64 (x374 - (x369.length : Int))) < 0) then some (-1)
  else (Option.bind (whileM (σ := Int × Int) (ρ := (Int) ⊕ (Int)) (fun s390 =>
    bif decide (s390.2 < (x369.length : Int)) then (Option.bind (gxIdx x369 s390.2) fun y402 =>
    Option.bind (M.l_szEvent y402 s390.1) fun r403 =>
    bif decide (r403 < 0) then some (.inr (.inr (-1)))
    else some (.inl (r403, w64 (s390.2 + 1))))
    else some (.inr (.inl s390.1))) gxFuel (w64 (x374 - (x369.length : Int)), 0)) fun out397 => Sum.elim (fun (o400 : Int) =>
  some o400) (fun r => some r) out397)
def M.l_toEventS (x417 : List Event) : Option ((List Event)) :=
  Option.bind (gxMake 40 (x417.length : Int) ((⟨0, 0, ByteArray.empty, 0⟩ : Event) : Event)) fun mk427 =>
  Option.bind (whileM (σ := Int × List Event) (ρ := List Event) (fun s459 =>
    bif decide (s459.1 < (x417.length : Int)) then (Option.bind (gxIdx x417 s459.1) fun y475 =>
    Option.bind (M.l_toEvent y475) fun r476 =>
    Option.bind (gxIdx s459.2 s459.1) fun y480 =>
    some (.inl (w64 (s459.1 + 1), (s459.2.set s459.1.toNat r476))))
    else some (.inr s459.2)) gxFuel (0, mk427)) fun out466 =>
  some out466
def M.s_l22Good (x503 : List Event) : Option (Bool) :=
  Option.bind (whileM (σ := Int) (ρ := (Unit) ⊕ (Bool)) (fun s586 =>
    bif decide (s586 < (x503.length : Int)) then (Option.bind (α := Bool) (Option.bind (gxIdx x503 s586) fun y616 =>
    Option.bind (M.s_l22One y616) fun r617 =>
    bif !r617 then some true
    else (bif decide (s586 > 0) then (Option.bind (gxIdx x503 (w64 (s586 - 1))) fun y625 =>
    Option.bind (gxIdx x503 s586) fun y626 =>
    some (decide (y625.Tick > y626.Tick)))
    else some false)) fun o613 =>
    bif o613 then some (.inr (.inr false))
    else some (.inl (w64 (s586 + 1))))
    else some (.inr (.inl ()))) gxFuel 0) fun out593 => Sum.elim (fun (o596 : Unit) =>
  some (decide ((x503.length : Int) ≤ 30))) (fun r => some r) out593
def M.s_IsRecord (x498 : List Event) : Option (Bool) :=
  Option.bind (M.s_l22Good x498) fun r640 =>
  some r640
def M.i_IsRecord (x657 : List Event) : Option (Bool) :=
  Option.bind (whileM (σ := Int) (ρ := (Unit) ⊕ (Bool)) (fun s746 =>
    bif decide (s746 < (x657.length : Int)) then (Option.bind (gxIdx x657 s746) fun y758 =>
    Option.bind (α := Bool) (Option.bind (M.i_IsEvent y758) fun r781 =>
    bif !r781 then some true
    else (bif decide (s746 > 0) then (Option.bind (gxIdx x657 (w64 (s746 - 1))) fun y789 =>
    some (decide (y789.Tick > y758.Tick)))
    else some false)) fun o778 =>
    bif o778 then some (.inr (.inr false))
    else some (.inl (w64 (s746 + 1))))
    else some (.inr (.inl ()))) gxFuel 0) fun out753 => Sum.elim (fun (o756 : Unit) =>
  some (decide ((x657.length : Int) ≤ 30))) (fun r => some r) out753
def M.l_eqEvent (x831 : Event) (x832 : Event) : Option (Bool) :=
  bif x831.Tick != x832.Tick then some false
  else (bif x831.Guest != x832.Guest then some false
  else (bif !(x831.Kind.toList == x832.Kind.toList) then some false
  else (bif x831.Value != x832.Value then some false
  else some true)))
def M.l_eqEventS (x817 : List Event) (x822 : List Event) : Option (Bool) :=
  bif (x817.length : Int) != (x822.length : Int) then some false
  else (Option.bind (whileM (σ := Int) (ρ := (Unit) ⊕ (Bool)) (fun s862 =>
    bif decide (s862 < (x817.length : Int)) then (Option.bind (gxIdx x817 s862) fun y874 =>
    Option.bind (gxIdx x822 s862) fun y875 =>
    Option.bind (M.l_eqEvent y874 y875) fun r876 =>
    bif !r876 then some (.inr (.inr false))
    else some (.inl (w64 (s862 + 1))))
    else some (.inr (.inl ()))) gxFuel 0) fun out869 => Sum.elim (fun (o872 : Unit) =>
  some true) (fun r => some r) out869)
def M.l_FnExactIsRecord (x364 : List Event) : Option (Bool) :=
  Option.bind (M.l_szEventS x364 1048576) fun r412 =>
  bif decide (r412 < 0) then some true
  else (Option.bind (M.l_toEventS x364) fun r489 =>
  Option.bind (M.s_IsRecord r489) fun r644 =>
  Option.bind (M.l_toEventS x364) fun r648 =>
  Option.bind (M.i_IsRecord r648) fun r803 =>
  bif !(r803 == r644) then some false
  else (Option.bind (M.l_toEventS x364) fun r808 =>
  Option.bind (M.l_eqEventS r648 r808) fun r887 =>
  bif !r887 then some false
  else some true))
def M.s_LongestGap (x911 : List Event) : Option (Int × Int × Bool) :=
  Option.bind (α := Bool) (Option.bind (M.s_l22Good x911) fun r924 =>
  bif !r924 then some true
  else some (decide ((x911.length : Int) < 2))) fun o921 =>
  bif o921 then some (0, 0, false)
  else (Option.bind (whileM (σ := Int × Int × Int) (ρ := Int × Int) (fun s962 =>
    bif decide (s962.2.2 < (x911.length : Int)) then (Option.bind (gxIdx x911 s962.2.2) fun y974 =>
    Option.bind (gxIdx x911 (w64 (s962.2.2 - 1))) fun y975 =>
    Option.bind (α := Int × Int) (bif decide ((w64 (y974.Tick - y975.Tick)) > s962.1) then some (w64 (y974.Tick - y975.Tick), s962.2.2)
    else some (s962.1, s962.2.1)) fun o979 =>
    some (.inl (o979.1, o979.2, w64 (s962.2.2 + 1))))
    else some (.inr (s962.1, s962.2.1))) gxFuel ((-1), 0, 1)) fun out969 =>
  some (out969.1, out969.2, true))
def M.i_LongestGap (x1004 : List Event) : Option (Int × Int × Bool) :=
  Option.bind (α := Bool) (Option.bind (M.i_IsRecord x1004) fun r1017 =>
  bif !r1017 then some true
  else some (decide ((x1004.length : Int) < 2))) fun o1014 =>
  bif o1014 then some (0, 0, false)
  else (Option.bind (whileM (σ := Int × Int × Int) (ρ := Int × Int) (fun s1055 =>
    bif decide (s1055.2.2 < (x1004.length : Int)) then (Option.bind (gxIdx x1004 s1055.2.2) fun y1067 =>
    Option.bind (gxIdx x1004 (w64 (s1055.2.2 - 1))) fun y1068 =>
    Option.bind (α := Int × Int) (bif decide ((w64 (y1067.Tick - y1068.Tick)) > s1055.1) then some (w64 (y1067.Tick - y1068.Tick), s1055.2.2)
    else some (s1055.1, s1055.2.1)) fun o1072 =>
    some (.inl (o1072.1, o1072.2, w64 (s1055.2.2 + 1))))
    else some (.inr (s1055.1, s1055.2.1))) gxFuel ((-1), 0, 1)) fun out1062 =>
  some (out1062.1, out1062.2, true))
def M.l_FnExactLongestGap (x892 : List Event) : Option (Bool) :=
  Option.bind (M.l_szEventS x892 1048576) fun r897 =>
  bif decide (r897 < 0) then some true
  else (Option.bind (M.l_toEventS x892) fun r902 =>
  Option.bind (M.s_LongestGap r902) fun r991 =>
  Option.bind (M.l_toEventS x892) fun r995 =>
  Option.bind (M.i_LongestGap r995) fun r1084 =>
  Option.bind (α := Bool) (bif r1084.1 != r991.1 then some true
  else (bif r1084.2.1 != r991.2.1 then some true
  else some (!(r1084.2.2 == r991.2.2)))) fun o1090 =>
  bif o1090 then some false
  else (Option.bind (M.l_toEventS x892) fun r1100 =>
  Option.bind (M.l_eqEventS r995 r1100) fun r1109 =>
  bif !r1109 then some false
  else some true))
def M.s_FirstWith (x1136 : List Event) (x1141 : ByteArray) (x1142 : Int) : Option (Int × Bool) :=
  Option.bind (α := Bool) (Option.bind (M.s_l22Good x1136) fun r1155 =>
  bif !r1155 then some true
  else (Option.bind (M.s_l1In x1142 0 65535) fun r1160 =>
  some (!r1160))) fun o1152 =>
  bif o1152 then some (0, false)
  else (Option.bind (whileM (σ := Int) (ρ := (Unit) ⊕ (Int × Bool)) (fun s1199 =>
    bif decide (s1199 < (x1136.length : Int)) then (Option.bind (α := Bool) (Option.bind (gxIdx x1136 s1199) fun y1217 =>
    bif (y1217.Kind.toList == x1141.toList) then (Option.bind (gxIdx x1136 s1199) fun y1219 =>
    some (decide (y1219.Value ≥ x1142)))
    else some false) fun o1214 =>
    bif o1214 then some (.inr (.inr (s1199, true)))
    else some (.inl (w64 (s1199 + 1))))
    else some (.inr (.inl ()))) gxFuel 0) fun out1206 => Sum.elim (fun (o1209 : Unit) =>
  some (0, false)) (fun r => some r) out1206)
def M.i_FirstWith_1 (x1298 : Event) (x1299 : ByteArray) (x1303 : Int) : Option (Bool) :=
  Option.bind (α := Bool) (bif (x1298.Kind.toList == x1299.toList) then some (decide (x1298.Value ≥ x1303))
  else some false) fun o1312 =>
  some o1312
def M.slices_IndexFunc_59__i_FirstWith_1 (x1283 : List Event) (x1288 : ByteArray) (x1292 : Int) : Option (Int) :=
  Option.bind (whileM (σ := Int) (ρ := (Unit) ⊕ (Int)) (fun s1332 =>
    bif decide (s1332 < (x1283.length : Int)) then (Option.bind (gxIdx x1283 s1332) fun y1344 =>
    Option.bind (M.i_FirstWith_1 y1344 x1288 x1292) fun r1345 =>
    bif r1345 then some (.inr (.inr s1332))
    else some (.inl (w64 (s1332 + 1))))
    else some (.inr (.inl ()))) gxFuel 0) fun out1339 => Sum.elim (fun (o1342 : Unit) =>
  some (-1)) (fun r => some r) out1339
def M.i_FirstWith (x1242 : List Event) (x1247 : ByteArray) (x1248 : Int) : Option (Int × Bool) :=
  Option.bind (α := Bool) (Option.bind (M.i_IsRecord x1242) fun r1269 =>
  bif !r1269 then some true
  else (Option.bind (M.i_isWord16 x1248) fun r1274 =>
  some (!r1274))) fun o1266 =>
  bif o1266 then some (0, false)
  else (Option.bind (M.slices_IndexFunc_59__i_FirstWith_1 x1242 x1247 x1248) fun r1354 =>
  bif decide (r1354 < 0) then some (0, false)
  else some (r1354, true))
def M.l_FnExactFirstWith (x1114 : List Event) (x1119 : ByteArray) (x1120 : Int) : Option (Bool) :=
  bif decide ((x1119.size : Int) > 1048576) then some true
  else (Option.bind (M.l_szEventS x1114 1048576) fun r1122 =>
  bif decide (r1122 < 0) then some true
  else (Option.bind (M.l_toEventS x1114) fun r1127 =>
  Option.bind (M.s_FirstWith r1127 x1119 x1120) fun r1229 =>
  Option.bind (M.l_toEventS x1114) fun r1233 =>
  Option.bind (M.i_FirstWith r1233 x1119 x1120) fun r1359 =>
  Option.bind (α := Bool) (bif r1359.1 != r1229.1 then some true
  else some (!(r1359.2 == r1229.2))) fun o1364 =>
  bif o1364 then some false
  else (Option.bind (M.l_toEventS x1114) fun r1373 =>
  Option.bind (M.l_eqEventS r1233 r1373) fun r1382 =>
  bif !r1382 then some false
  else some true)))
def M.s_EventsOf (x1407 : List Event) (x1412 : Int) : Option ((List Event) × Bool) :=
  Option.bind (α := Bool) (Option.bind (M.s_l22Good x1407) fun r1437 =>
  bif !r1437 then some true
  else (Option.bind (M.s_l22Guest x1412) fun r1442 =>
  some (!r1442))) fun o1434 =>
  bif o1434 then some (([] : List Event), false)
  else (Option.bind (whileM (σ := List Event × Int) (ρ := List Event) (fun s1552 =>
    bif decide (s1552.2 < (x1407.length : Int)) then (Option.bind (gxIdx x1407 s1552.2) fun y1574 =>
    Option.bind (α := List Event) (bif y1574.Guest == x1412 then (Option.bind (gxIdx x1407 s1552.2) fun y1601 =>
    Option.bind (gxApp 40 s1552.1 [y1601]) fun ap1609 =>
    some ap1609)
    else some s1552.1) fun o1592 =>
    some (.inl (o1592, w64 (s1552.2 + 1))))
    else some (.inr s1552.1)) gxFuel (([] : List Event), 0)) fun out1559 =>
  some (out1559, true))
def M.i_EventsOf_1 (x1761 : Event) (x1762 : Int) : Option (Bool) :=
  some (x1761.Guest == x1762)
def M.i_eventsWhere_1__i_EventsOf_1 (x1749 : Event) (x1750 : Int) : Option (Bool) :=
  Option.bind (M.i_EventsOf_1 x1749 x1750) fun r1770 =>
  some (!r1770)
def M.slices_IndexFunc_59__i_eventsWhere_1__i_EventsOf_1 (x1735 : List Event) (x1740 : Int) : Option (Int) :=
  Option.bind (whileM (σ := Int) (ρ := (Unit) ⊕ (Int)) (fun s1786 =>
    bif decide (s1786 < (x1735.length : Int)) then (Option.bind (gxIdx x1735 s1786) fun y1798 =>
    Option.bind (M.i_eventsWhere_1__i_EventsOf_1 y1798 x1740) fun r1799 =>
    bif r1799 then some (.inr (.inr s1786))
    else some (.inl (w64 (s1786 + 1))))
    else some (.inr (.inl ()))) gxFuel 0) fun out1793 => Sum.elim (fun (o1796 : Unit) =>
  some (-1)) (fun r => some r) out1793
def M.slices_DeleteFunc_81__i_eventsWhere_1__i_EventsOf_1 (x1839 : List Event) (x1845 : Int) : Option ((List Event) × (List Event)) :=
  Option.bind (M.slices_IndexFunc_59__i_eventsWhere_1__i_EventsOf_1 x1839 x1845) fun r1859 =>
  bif r1859 == (-1) then some (x1839, x1839)
  else (Option.bind (whileM (σ := Int × Int × List Event) (ρ := Int × List Event) (fun s1935 =>
    bif decide (s1935.2.1 < (s1935.2.2.length : Int)) then (Option.bind (gxIdx s1935.2.2 s1935.2.1) fun y1953 =>
    Option.bind (M.i_eventsWhere_1__i_EventsOf_1 y1953 x1845) fun r1960 =>
    Option.bind (α := Int × List Event) (bif !r1960 then (Option.bind (gxIdx s1935.2.2 s1935.1) fun y1977 =>
    some (w64 (s1935.1 + 1), (s1935.2.2.set s1935.1.toNat y1953)))
    else some (s1935.1, s1935.2.2)) fun o1970 =>
    some (.inl (o1970.1, w64 (s1935.2.1 + 1), o1970.2)))
    else some (.inr (s1935.1, s1935.2.2))) gxFuel (r1859, w64 (r1859 + 1), x1839)) fun out1942 =>
  Option.bind (gxSlice out1942.2 out1942.1 (out1942.2.length : Int)) fun ys1990 =>
  Option.bind (gxSlice (gxClear out1942.2 out1942.1 (out1942.2.length : Int) ((⟨0, 0, ByteArray.empty, 0⟩ : Event) : Event)) 0 out1942.1) fun ys1996 =>
  some (ys1996, (gxClear out1942.2 out1942.1 (out1942.2.length : Int) ((⟨0, 0, ByteArray.empty, 0⟩ : Event) : Event))))
def M.i_eventsWhere__i_EventsOf_1 (x1685 : List Event) (x1690 : Int) : Option ((List Event)) :=
  Option.bind (gxApp 40 ([] : List Event) x1685) fun ap1710 =>
  Option.bind (M.slices_DeleteFunc_81__i_eventsWhere_1__i_EventsOf_1 ap1710 x1690) fun r1998 =>
  some r1998.1
def M.i_EventsOf (x1643 : List Event) (x1648 : Int) : Option ((List Event) × Bool) :=
  Option.bind (α := Bool) (Option.bind (M.i_IsRecord x1643) fun r1670 =>
  bif !r1670 then some true
  else (Option.bind (M.i_isParty x1648) fun r1675 =>
  some (!r1675))) fun o1667 =>
  bif o1667 then some (([] : List Event), false)
  else (Option.bind (M.i_eventsWhere__i_EventsOf_1 x1643 x1648) fun r2012 =>
  some (r2012, true))
def M.l_markText (x2081 : Int) : Option (ByteArray) :=
  bif decide (x2081 ≤ 0) then some (ByteArray.mk #[109, 48])
  else (Option.bind (whileM (σ := Int × ByteArray) (ρ := ByteArray) (fun s2101 =>
    bif decide (s2101.1 > 0) then (Option.bind (gxSCat (gxStr [IntKind.u8.wrap (w64 (48 + (s2101.1.tmod 10)))]) s2101.2) fun q2120 =>
    some (.inl (w64 (s2101.1.tdiv 10), q2120)))
    else some (.inr s2101.2)) gxFuel (x2081, (ByteArray.mk #[]))) fun out2108 =>
  Option.bind (gxSCat (ByteArray.mk #[109]) out2108) fun q2125 =>
  some q2125)
def M.l_markEventS (x2062 : List Event) (x2068 : Int) : Option (Int × (List Event)) :=
  Option.bind (whileM (σ := Int × Int × List Event) (ρ := Int × List Event) (fun s2168 =>
    bif decide (s2168.2.1 < (s2168.2.2.length : Int)) then (Option.bind (gxIdx s2168.2.2 s2168.2.1) fun y2186 =>
    Option.bind (gxIdx (s2168.2.2.set s2168.2.1.toNat (⟨s2168.1, y2186.Guest, y2186.Kind, y2186.Value⟩ : Event)) s2168.2.1) fun y2191 =>
    Option.bind (M.l_markText (w64 ((w64 (s2168.1 + 1)) + 1))) fun r2196 =>
    Option.bind (gxIdx ((s2168.2.2.set s2168.2.1.toNat (⟨s2168.1, y2186.Guest, y2186.Kind, y2186.Value⟩ : Event)).set s2168.2.1.toNat (⟨y2191.Tick, w64 (s2168.1 + 1), y2191.Kind, y2191.Value⟩ : Event)) s2168.2.1) fun y2200 =>
    Option.bind (gxIdx (((s2168.2.2.set s2168.2.1.toNat (⟨s2168.1, y2186.Guest, y2186.Kind, y2186.Value⟩ : Event)).set s2168.2.1.toNat (⟨y2191.Tick, w64 (s2168.1 + 1), y2191.Kind, y2191.Value⟩ : Event)).set s2168.2.1.toNat (⟨y2200.Tick, y2200.Guest, r2196, y2200.Value⟩ : Event)) s2168.2.1) fun y2205 =>
    some (.inl (w64 ((w64 ((w64 ((w64 (s2168.1 + 1)) + 1)) + 1)) + 1), w64 (s2168.2.1 + 1), ((((s2168.2.2.set s2168.2.1.toNat (⟨s2168.1, y2186.Guest, y2186.Kind, y2186.Value⟩ : Event)).set s2168.2.1.toNat (⟨y2191.Tick, w64 (s2168.1 + 1), y2191.Kind, y2191.Value⟩ : Event)).set s2168.2.1.toNat (⟨y2200.Tick, y2200.Guest, r2196, y2200.Value⟩ : Event)).set s2168.2.1.toNat (⟨y2205.Tick, y2205.Guest, y2205.Kind, w64 ((w64 ((w64 (s2168.1 + 1)) + 1)) + 1)⟩ : Event)))))
    else some (.inr (s2168.1, s2168.2.2))) gxFuel (x2068, 0, x2062)) fun out2175 =>
  some (out2175.1, out2175.2)
def M.l_heldEventS (x2248 : List Event) (x2253 : Int) : Option (Int) :=
  Option.bind (whileM (σ := Int × Int) (ρ := (Int) ⊕ (Int)) (fun s2284 =>
    bif decide (s2284.2 < (x2248.length : Int)) then (Option.bind (gxIdx x2248 s2284.2) fun y2296 =>
    bif y2296.Tick != s2284.1 then some (.inr (.inr (-1)))
    else (Option.bind (gxIdx x2248 s2284.2) fun y2298 =>
    bif y2298.Guest != (w64 (s2284.1 + 1)) then some (.inr (.inr (-1)))
    else (Option.bind (gxIdx x2248 s2284.2) fun y2300 =>
    Option.bind (M.l_markText (w64 ((w64 (s2284.1 + 1)) + 1))) fun r2301 =>
    bif !(y2300.Kind.toList == r2301.toList) then some (.inr (.inr (-1)))
    else (Option.bind (gxIdx x2248 s2284.2) fun y2308 =>
    bif y2308.Value != (w64 ((w64 ((w64 (s2284.1 + 1)) + 1)) + 1)) then some (.inr (.inr (-1)))
    else some (.inl (w64 ((w64 ((w64 ((w64 (s2284.1 + 1)) + 1)) + 1)) + 1), w64 (s2284.2 + 1)))))))
    else some (.inr (.inl s2284.1))) gxFuel (x2253, 0)) fun out2291 => Sum.elim (fun (o2294 : Int) =>
  some o2294) (fun r => some r) out2291
def M.l_FnExactEventsOf (x1387 : List Event) (x1392 : Int) : Option (Bool) :=
  Option.bind (M.l_szEventS x1387 1048576) fun r1393 =>
  bif decide (r1393 < 0) then some true
  else (Option.bind (M.l_toEventS x1387) fun r1398 =>
  Option.bind (M.s_EventsOf r1398 x1392) fun r1625 =>
  Option.bind (M.l_toEventS x1387) fun r1634 =>
  Option.bind (M.i_EventsOf r1634 x1392) fun r2021 =>
  Option.bind (α := Bool) (Option.bind (M.l_eqEventS r2021.1 r1625.1) fun r2038 =>
  bif !r2038 then some true
  else some (!(r2021.2 == r1625.2))) fun o2035 =>
  bif o2035 then some false
  else (Option.bind (M.l_toEventS x1387) fun r2048 =>
  Option.bind (M.l_eqEventS r1634 r2048) fun r2057 =>
  bif !r2057 then some false
  else (Option.bind (M.l_markEventS r1634 1) fun r2214 =>
  Option.bind (α := Bool) (bif decide (r2214.1 < 0) then some true
  else (Option.bind (M.l_eqEventS r2021.1 r1625.1) fun r2231 =>
  bif !r2231 then some true
  else some (!(r2021.2 == r1625.2)))) fun o2227 =>
  bif o2227 then some false
  else (Option.bind (M.l_markEventS r2021.1 1) fun r2241 =>
  Option.bind (M.l_heldEventS r2241.2 1) fun r2314 =>
  bif decide (r2314 < 0) then some false
  else (bif r2314 != r2241.1 then some false
  else (Option.bind (M.l_toEventS x1387) fun r2320 =>
  Option.bind (M.i_EventsOf r2320 x1392) fun r2329 =>
  Option.bind (α := Bool) (Option.bind (M.l_eqEventS r2329.1 r1625.1) fun r2346 =>
  bif !r2346 then some true
  else some (!(r2329.2 == r1625.2))) fun o2343 =>
  bif o2343 then some false
  else (Option.bind (M.l_heldEventS r2241.2 1) fun r2356 =>
  bif decide (r2356 < 0) then some false
  else (bif r2356 != r2241.1 then some false
  else some true))))))))
def M.s_EventsWithin (x2383 : List Event) (x2388 : Int) (x2389 : Int) : Option ((List Event) × Bool) :=
  Option.bind (α := Bool) (Option.bind (M.s_l22Good x2383) fun r2420 =>
  bif !r2420 then some true
  else (Option.bind (M.s_l11Tick x2388) fun r2425 =>
  bif !r2425 then some true
  else (Option.bind (M.s_l11Tick x2389) fun r2430 =>
  bif !r2430 then some true
  else some (decide (x2388 > x2389))))) fun o2417 =>
  bif o2417 then some (([] : List Event), false)
  else (Option.bind (whileM (σ := List Event × Int) (ρ := List Event) (fun s2549 =>
    bif decide (s2549.2 < (x2383.length : Int)) then (Option.bind (gxIdx x2383 s2549.2) fun y2571 =>
    Option.bind (M.s_l1In y2571.Tick x2388 x2389) fun r2572 =>
    Option.bind (α := List Event) (bif r2572 then (Option.bind (gxIdx x2383 s2549.2) fun y2602 =>
    Option.bind (gxApp 40 s2549.1 [y2602]) fun ap2610 =>
    some ap2610)
    else some s2549.1) fun o2593 =>
    some (.inl (o2593, w64 (s2549.2 + 1))))
    else some (.inr s2549.1)) gxFuel (([] : List Event), 0)) fun out2556 =>
  some (out2556, true))
def M.i_EventsWithin_1 (x2799 : Event) (x2800 : Int) (x2804 : Int) : Option (Bool) :=
  Option.bind (M.i_inside x2799.Tick x2800 x2804) fun r2812 =>
  some r2812
def M.i_eventsWhere_1__i_EventsWithin_1 (x2783 : Event) (x2784 : Int) (x2788 : Int) : Option (Bool) :=
  Option.bind (M.i_EventsWithin_1 x2783 x2784 x2788) fun r2816 =>
  some (!r2816)
def M.slices_IndexFunc_59__i_eventsWhere_1__i_EventsWithin_1 (x2765 : List Event) (x2770 : Int) (x2774 : Int) : Option (Int) :=
  Option.bind (whileM (σ := Int) (ρ := (Unit) ⊕ (Int)) (fun s2832 =>
    bif decide (s2832 < (x2765.length : Int)) then (Option.bind (gxIdx x2765 s2832) fun y2844 =>
    Option.bind (M.i_eventsWhere_1__i_EventsWithin_1 y2844 x2770 x2774) fun r2845 =>
    bif r2845 then some (.inr (.inr s2832))
    else some (.inl (w64 (s2832 + 1))))
    else some (.inr (.inl ()))) gxFuel 0) fun out2839 => Sum.elim (fun (o2842 : Unit) =>
  some (-1)) (fun r => some r) out2839
def M.slices_DeleteFunc_81__i_eventsWhere_1__i_EventsWithin_1 (x2740 : List Event) (x2746 : Int) (x2751 : Int) : Option ((List Event) × (List Event)) :=
  Option.bind (M.slices_IndexFunc_59__i_eventsWhere_1__i_EventsWithin_1 x2740 x2746 x2751) fun r2854 =>
  bif r2854 == (-1) then some (x2740, x2740)
  else (Option.bind (whileM (σ := Int × Int × List Event) (ρ := Int × List Event) (fun s2930 =>
    bif decide (s2930.2.1 < (s2930.2.2.length : Int)) then (Option.bind (gxIdx s2930.2.2 s2930.2.1) fun y2948 =>
    Option.bind (M.i_eventsWhere_1__i_EventsWithin_1 y2948 x2746 x2751) fun r2955 =>
    Option.bind (α := Int × List Event) (bif !r2955 then (Option.bind (gxIdx s2930.2.2 s2930.1) fun y2972 =>
    some (w64 (s2930.1 + 1), (s2930.2.2.set s2930.1.toNat y2948)))
    else some (s2930.1, s2930.2.2)) fun o2965 =>
    some (.inl (o2965.1, w64 (s2930.2.1 + 1), o2965.2)))
    else some (.inr (s2930.1, s2930.2.2))) gxFuel (r2854, w64 (r2854 + 1), x2740)) fun out2937 =>
  Option.bind (gxSlice out2937.2 out2937.1 (out2937.2.length : Int)) fun ys2985 =>
  Option.bind (gxSlice (gxClear out2937.2 out2937.1 (out2937.2.length : Int) ((⟨0, 0, ByteArray.empty, 0⟩ : Event) : Event)) 0 out2937.1) fun ys2991 =>
  some (ys2991, (gxClear out2937.2 out2937.1 (out2937.2.length : Int) ((⟨0, 0, ByteArray.empty, 0⟩ : Event) : Event))))
def M.i_eventsWhere__i_EventsWithin_1 (x2703 : List Event) (x2708 : Int) (x2712 : Int) : Option ((List Event)) :=
  Option.bind (gxApp 40 ([] : List Event) x2703) fun ap2732 =>
  Option.bind (M.slices_DeleteFunc_81__i_eventsWhere_1__i_EventsWithin_1 ap2732 x2708 x2712) fun r2993 =>
  some r2993.1
def M.i_EventsWithin (x2644 : List Event) (x2649 : Int) (x2650 : Int) : Option ((List Event) × Bool) :=
  Option.bind (α := Bool) (Option.bind (M.i_IsRecord x2644) fun r2682 =>
  bif !r2682 then some true
  else (Option.bind (M.i_isTick x2649) fun r2687 =>
  bif !r2687 then some true
  else (Option.bind (M.i_isTick x2650) fun r2692 =>
  bif !r2692 then some true
  else some (decide (x2649 > x2650))))) fun o2679 =>
  bif o2679 then some (([] : List Event), false)
  else (Option.bind (M.i_eventsWhere__i_EventsWithin_1 x2644 x2649 x2650) fun r3007 =>
  some (r3007, true))
def M.l_FnExactEventsWithin (x2362 : List Event) (x2367 : Int) (x2368 : Int) : Option (Bool) :=
  Option.bind (M.l_szEventS x2362 1048576) fun r2369 =>
  bif decide (r2369 < 0) then some true
  else (Option.bind (M.l_toEventS x2362) fun r2374 =>
  Option.bind (M.s_EventsWithin r2374 x2367 x2368) fun r2626 =>
  Option.bind (M.l_toEventS x2362) fun r2635 =>
  Option.bind (M.i_EventsWithin r2635 x2367 x2368) fun r3016 =>
  Option.bind (α := Bool) (Option.bind (M.l_eqEventS r3016.1 r2626.1) fun r3033 =>
  bif !r3033 then some true
  else some (!(r3016.2 == r2626.2))) fun o3030 =>
  bif o3030 then some false
  else (Option.bind (M.l_toEventS x2362) fun r3043 =>
  Option.bind (M.l_eqEventS r2635 r3043) fun r3052 =>
  bif !r3052 then some false
  else (Option.bind (M.l_markEventS r2635 1) fun r3057 =>
  Option.bind (α := Bool) (bif decide (r3057.1 < 0) then some true
  else (Option.bind (M.l_eqEventS r3016.1 r2626.1) fun r3074 =>
  bif !r3074 then some true
  else some (!(r3016.2 == r2626.2)))) fun o3070 =>
  bif o3070 then some false
  else (Option.bind (M.l_markEventS r3016.1 1) fun r3084 =>
  Option.bind (M.l_heldEventS r3084.2 1) fun r3091 =>
  bif decide (r3091 < 0) then some false
  else (bif r3091 != r3084.1 then some false
  else (Option.bind (M.l_toEventS x2362) fun r3097 =>
  Option.bind (M.i_EventsWithin r3097 x2367 x2368) fun r3106 =>
  Option.bind (α := Bool) (Option.bind (M.l_eqEventS r3106.1 r2626.1) fun r3123 =>
  bif !r3123 then some true
  else some (!(r3106.2 == r2626.2))) fun o3120 =>
  bif o3120 then some false
  else (Option.bind (M.l_heldEventS r3084.2 1) fun r3133 =>
  bif decide (r3133 < 0) then some false
  else (bif r3133 != r3084.1 then some false
  else some true))))))))
end Go.Proofs.Ytfcebglkdfadcaa
