/- The models of the functions, printed by program: what each computes, in plain Lean. -/
import Derived.Test.YtfcebglkdfadcaaGxU
set_option linter.unusedVariables false
set_option maxRecDepth 100000
set_option maxHeartbeats 4000000
namespace Go.Proofs.Ytfcebglkdfadcaa
open Go.Gx
structure Event where
  Tick : Int
  Guest : Int
  Kind : ByteArray
  Value : Int
def encEvent : Enc Event := ⟨fun x => [.int .i64 x.Tick, .int .i64 x.Guest, .string x.Kind, .int .i64 x.Value], 4, fun _ => rfl, by simp [Value.oneCell']⟩
structure l1Cur where
  code : List Int
  at_ : Int
  seed : Int
def M.l_szEvent (x6 : Event) (x7 : Int) : Option (Int) :=
  bif decide ((w64 (x7 - (x6.Kind.size : Int))) < 0) then some (-1)
  else some (w64 (x7 - (x6.Kind.size : Int)))
def M.l_toEvent (x18 : Event) : Option (Event) :=
  some x18
def M.s_l1In (x56 : Int) (x57 : Int) (x58 : Int) : Option (Bool) :=
  Option.bind (α := Bool) (bif decide (x56 ≥ x57) then some (decide (x56 ≤ x58))
  else some false) fun o60 =>
  some o60
def M.s_l11Tick (x55 : Int) : Option (Bool) :=
  Option.bind (M.s_l1In x55 0 100000) fun r68 =>
  some r68
def M.s_l22Guest (x77 : Int) : Option (Bool) :=
  Option.bind (M.s_l1In x77 0 4) fun r78 =>
  some r78
def M.s_l22Kind (x87 : ByteArray) : Option (Bool) :=
  Option.bind (whileM (σ := Int) (ρ := (Unit) ⊕ (Bool)) (fun s118 =>
    bif decide (s118 < (x87.size : Int)) then (Option.bind (α := Bool) (Option.bind (gxSIdx x87 s118) fun q136 =>
    bif decide (q136 < 97) then some true
    else (Option.bind (gxSIdx x87 s118) fun q138 =>
    some (decide (q138 > 122)))) fun o133 =>
    bif o133 then some (.inr (.inr false))
    else some (.inl (w64 (s118 + 1))))
    else some (.inr (.inl ()))) gxFuel 0) fun out125 => Sum.elim (fun (o128 : Unit) =>
  Option.bind (M.s_l1In (x87.size : Int) 1 8) fun r148 =>
  some r148) (fun r => some r) out125
def M.s_l22One (x50 : Event) : Option (Bool) :=
  Option.bind (α := Bool) (Option.bind (M.s_l11Tick x50.Tick) fun r164 =>
  bif r164 then (Option.bind (M.s_l22Guest x50.Guest) fun r169 =>
  bif r169 then (Option.bind (M.s_l22Kind x50.Kind) fun r174 =>
  bif r174 then (Option.bind (M.s_l1In x50.Value 0 65535) fun r179 =>
  some r179)
  else some false)
  else some false)
  else some false) fun o161 =>
  some o161
def M.s_IsEvent (x45 : Event) : Option (Bool) :=
  Option.bind (M.s_l22One x45) fun r187 =>
  some r187
def M.i_inside (x205 : Int) (x206 : Int) (x207 : Int) : Option (Bool) :=
  Option.bind (α := Bool) (bif decide (x205 ≥ x206) then some (decide (x205 ≤ x207))
  else some false) fun o209 =>
  some o209
def M.i_isTick (x204 : Int) : Option (Bool) :=
  Option.bind (M.i_inside x204 0 100000) fun r217 =>
  some r217
def M.i_isParty (x226 : Int) : Option (Bool) :=
  Option.bind (M.i_inside x226 0 4) fun r227 =>
  some r227
def M.i_isWord (x237 : ByteArray) : Option (Bool) :=
  Option.bind (whileM (σ := Int) (ρ := (Unit) ⊕ (Bool)) (fun s268 =>
    bif decide (s268 < (x237.size : Int)) then (Option.bind (α := Bool) (Option.bind (gxSIdx x237 s268) fun q286 =>
    bif decide (q286 < 97) then some true
    else (Option.bind (gxSIdx x237 s268) fun q288 =>
    some (decide (q288 > 122)))) fun o283 =>
    bif o283 then some (.inr (.inr false))
    else some (.inl (w64 (s268 + 1))))
    else some (.inr (.inl ()))) gxFuel 0) fun out275 => Sum.elim (fun (o278 : Unit) =>
  Option.bind (M.i_inside (x237.size : Int) 1 10) fun r298 =>
  some r298) (fun r => some r) out275
def M.i_isEventKind (x236 : ByteArray) : Option (Bool) :=
  Option.bind (α := Bool) (Option.bind (M.i_isWord x236) fun r310 =>
  bif r310 then some (decide ((x236.size : Int) ≤ 8))
  else some false) fun o307 =>
  some o307
def M.i_isWord16 (x324 : Int) : Option (Bool) :=
  Option.bind (M.i_inside x324 0 65535) fun r325 =>
  some r325
def M.i_IsEvent (x199 : Event) : Option (Bool) :=
  Option.bind (α := Bool) (Option.bind (M.i_isTick x199.Tick) fun r336 =>
  bif r336 then (Option.bind (M.i_isParty x199.Guest) fun r341 =>
  bif r341 then (Option.bind (M.i_isEventKind x199.Kind) fun r346 =>
  bif r346 then (Option.bind (M.i_isWord16 x199.Value) fun r351 =>
  some r351)
  else some false)
  else some false)
  else some false) fun o333 =>
  some o333
def M.l_FnExactIsEvent (x1 : Event) : Option (Bool) :=
  Option.bind (M.l_szEvent x1 1048576) fun r13 =>
  bif decide (r13 < 0) then some true
  else (Option.bind (M.l_toEvent x1) fun r41 =>
  Option.bind (M.s_IsEvent r41) fun r191 =>
  Option.bind (M.l_toEvent x1) fun r195 =>
  Option.bind (M.i_IsEvent r195) fun r359 =>
  bif !(r359 == r191) then some false
  else some true)
def M.l_szEventS (x369 : List Event) (x374 : Int) : Option (Int) :=
  bif decide ((w64 (x374 - (x369.length : Int))) < 0) then some (-1)
  else (Option.bind (whileM (σ := Int × Int) (ρ := (Int) ⊕ (Int)) (fun s390 =>
    bif decide (s390.2 < (x369.length : Int)) then (Option.bind (gxIdx x369 s390.2) fun y402 =>
    Option.bind (M.l_szEvent y402 s390.1) fun r403 =>
    bif decide (r403 < 0) then some (.inr (.inr (-1)))
    else some (.inl (r403, w64 (s390.2 + 1))))
    else some (.inr (.inl s390.1))) gxFuel (w64 (x374 - (x369.length : Int)), 0)) fun out397 => Sum.elim (fun (o400 : Int) =>
  some o400) (fun r => some r) out397)
def M.l_toEventS (x417 : List Event) : Option ((List Event)) :=
  Option.bind (gxMake 40 (x417.length : Int) ((⟨0, 0, ByteArray.empty, 0⟩ : Event) : Event)) fun mk427 =>
  Option.bind (whileM (σ := Int × List Event) (ρ := List Event) (fun s459 =>
    bif decide (s459.1 < (x417.length : Int)) then (Option.bind (gxIdx x417 s459.1) fun y475 =>
    Option.bind (M.l_toEvent y475) fun r476 =>
    Option.bind (gxIdx s459.2 s459.1) fun y480 =>
    some (.inl (w64 (s459.1 + 1), (s459.2.set s459.1.toNat r476))))
    else some (.inr s459.2)) gxFuel (0, mk427)) fun out466 =>
  some out466
def M.s_l22Good (x503 : List Event) : Option (Bool) :=
  Option.bind (whileM (σ := Int) (ρ := (Unit) ⊕ (Bool)) (fun s586 =>
    bif decide (s586 < (x503.length : Int)) then (Option.bind (α := Bool) (Option.bind (gxIdx x503 s586) fun y616 =>
    Option.bind (M.s_l22One y616) fun r617 =>
    bif !r617 then some true
    else (bif decide (s586 > 0) then (Option.bind (gxIdx x503 (w64 (s586 - 1))) fun y625 =>
    Option.bind (gxIdx x503 s586) fun y626 =>
    some (decide (y625.Tick > y626.Tick)))
    else some false)) fun o613 =>
    bif o613 then some (.inr (.inr false))
    else some (.inl (w64 (s586 + 1))))
    else some (.inr (.inl ()))) gxFuel 0) fun out593 => Sum.elim (fun (o596 : Unit) =>
  some (decide ((x503.length : Int) ≤ 30))) (fun r => some r) out593
def M.s_IsRecord (x498 : List Event) : Option (Bool) :=
  Option.bind (M.s_l22Good x498) fun r640 =>
  some r640
def M.i_IsRecord (x657 : List Event) : Option (Bool) :=
  Option.bind (whileM (σ := Int) (ρ := (Unit) ⊕ (Bool)) (fun s746 =>
    bif decide (s746 < (x657.length : Int)) then (Option.bind (gxIdx x657 s746) fun y758 =>
    Option.bind (α := Bool) (Option.bind (M.i_IsEvent y758) fun r781 =>
    bif !r781 then some true
    else (bif decide (s746 > 0) then (Option.bind (gxIdx x657 (w64 (s746 - 1))) fun y789 =>
    some (decide (y789.Tick > y758.Tick)))
    else some false)) fun o778 =>
    bif o778 then some (.inr (.inr false))
    else some (.inl (w64 (s746 + 1))))
    else some (.inr (.inl ()))) gxFuel 0) fun out753 => Sum.elim (fun (o756 : Unit) =>
  some (decide ((x657.length : Int) ≤ 30))) (fun r => some r) out753
def M.l_eqEvent (x831 : Event) (x832 : Event) : Option (Bool) :=
  bif x831.Tick != x832.Tick then some false
  else (bif x831.Guest != x832.Guest then some false
  else (bif !(x831.Kind.toList == x832.Kind.toList) then some false
  else (bif x831.Value != x832.Value then some false
  else some true)))
def M.l_eqEventS (x817 : List Event) (x822 : List Event) : Option (Bool) :=
  bif (x817.length : Int) != (x822.length : Int) then some false
  else (Option.bind (whileM (σ := Int) (ρ := (Unit) ⊕ (Bool)) (fun s862 =>
    bif decide (s862 < (x817.length : Int)) then (Option.bind (gxIdx x817 s862) fun y874 =>
    Option.bind (gxIdx x822 s862) fun y875 =>
    Option.bind (M.l_eqEvent y874 y875) fun r876 =>
    bif !r876 then some (.inr (.inr false))
    else some (.inl (w64 (s862 + 1))))
    else some (.inr (.inl ()))) gxFuel 0) fun out869 => Sum.elim (fun (o872 : Unit) =>
  some true) (fun r => some r) out869)
def M.l_FnExactIsRecord (x364 : List Event) : Option (Bool) :=
  Option.bind (M.l_szEventS x364 1048576) fun r412 =>
  bif decide (r412 < 0) then some true
  else (Option.bind (M.l_toEventS x364) fun r489 =>
  Option.bind (M.s_IsRecord r489) fun r644 =>
  Option.bind (M.l_toEventS x364) fun r648 =>
  Option.bind (M.i_IsRecord r648) fun r803 =>
  bif !(r803 == r644) then some false
  else (Option.bind (M.l_toEventS x364) fun r808 =>
  Option.bind (M.l_eqEventS r648 r808) fun r887 =>
  bif !r887 then some false
  else some true))
def M.s_LongestGap (x911 : List Event) : Option (Int × Int × Bool) :=
  Option.bind (α := Bool) (Option.bind (M.s_l22Good x911) fun r924 =>
  bif !r924 then some true
  else some (decide ((x911.length : Int) < 2))) fun o921 =>
  bif o921 then some (0, 0, false)
  else (Option.bind (whileM (σ := Int × Int × Int) (ρ := Int × Int) (fun s962 =>
    bif decide (s962.2.2 < (x911.length : Int)) then (Option.bind (gxIdx x911 s962.2.2) fun y974 =>
    Option.bind (gxIdx x911 (w64 (s962.2.2 - 1))) fun y975 =>
    Option.bind (α := Int × Int) (bif decide ((w64 (y974.Tick - y975.Tick)) > s962.1) then some (w64 (y974.Tick - y975.Tick), s962.2.2)
    else some (s962.1, s962.2.1)) fun o979 =>
    some (.inl (o979.1, o979.2, w64 (s962.2.2 + 1))))
    else some (.inr (s962.1, s962.2.1))) gxFuel ((-1), 0, 1)) fun out969 =>
  some (out969.1, out969.2, true))
def M.i_LongestGap (x1004 : List Event) : Option (Int × Int × Bool) :=
  Option.bind (α := Bool) (Option.bind (M.i_IsRecord x1004) fun r1017 =>
  bif !r1017 then some true
  else some (decide ((x1004.length : Int) < 2))) fun o1014 =>
  bif o1014 then some (0, 0, false)
  else (Option.bind (whileM (σ := Int × Int × Int) (ρ := Int × Int) (fun s1055 =>
    bif decide (s1055.2.2 < (x1004.length : Int)) then (Option.bind (gxIdx x1004 s1055.2.2) fun y1067 =>
    Option.bind (gxIdx x1004 (w64 (s1055.2.2 - 1))) fun y1068 =>
    Option.bind (α := Int × Int) (bif decide ((w64 (y1067.Tick - y1068.Tick)) > s1055.1) then some (w64 (y1067.Tick - y1068.Tick), s1055.2.2)
    else some (s1055.1, s1055.2.1)) fun o1072 =>
    some (.inl (o1072.1, o1072.2, w64 (s1055.2.2 + 1))))
    else some (.inr (s1055.1, s1055.2.1))) gxFuel ((-1), 0, 1)) fun out1062 =>
  some (out1062.1, out1062.2, true))
def M.l_FnExactLongestGap (x892 : List Event) : Option (Bool) :=
  Option.bind (M.l_szEventS x892 1048576) fun r897 =>
  bif decide (r897 < 0) then some true
  else (Option.bind (M.l_toEventS x892) fun r902 =>
  Option.bind (M.s_LongestGap r902) fun r991 =>
  Option.bind (M.l_toEventS x892) fun r995 =>
  Option.bind (M.i_LongestGap r995) fun r1084 =>
  Option.bind (α := Bool) (bif r1084.1 != r991.1 then some true
  else (bif r1084.2.1 != r991.2.1 then some true
  else some (!(r1084.2.2 == r991.2.2)))) fun o1090 =>
  bif o1090 then some false
  else (Option.bind (M.l_toEventS x892) fun r1100 =>
  Option.bind (M.l_eqEventS r995 r1100) fun r1109 =>
  bif !r1109 then some false
  else some true))
def M.s_FirstWith (x1136 : List Event) (x1141 : ByteArray) (x1142 : Int) : Option (Int × Bool) :=
  Option.bind (α := Bool) (Option.bind (M.s_l22Good x1136) fun r1155 =>
  bif !r1155 then some true
  else (Option.bind (M.s_l1In x1142 0 65535) fun r1160 =>
  some (!r1160))) fun o1152 =>
  bif o1152 then some (0, false)
  else (Option.bind (whileM (σ := Int) (ρ := (Unit) ⊕ (Int × Bool)) (fun s1199 =>
    bif decide (s1199 < (x1136.length : Int)) then (Option.bind (α := Bool) (Option.bind (gxIdx x1136 s1199) fun y1217 =>
    bif (y1217.Kind.toList == x1141.toList) then (Option.bind (gxIdx x1136 s1199) fun y1219 =>
    some (decide (y1219.Value ≥ x1142)))
    else some false) fun o1214 =>
    bif o1214 then some (.inr (.inr (s1199, true)))
    else some (.inl (w64 (s1199 + 1))))
    else some (.inr (.inl ()))) gxFuel 0) fun out1206 => Sum.elim (fun (o1209 : Unit) =>
  some (0, false)) (fun r => some r) out1206)
def M.i_FirstWith_1 (x1298 : Event) (x1299 : ByteArray) (x1303 : Int) : Option (Bool) :=
  Option.bind (α := Bool) (bif (x1298.Kind.toList == x1299.toList) then some (decide (x1298.Value ≥ x1303))
  else some false) fun o1312 =>
  some o1312
def M.slices_IndexFunc_59__i_FirstWith_1 (x1283 : List Event) (x1288 : ByteArray) (x1292 : Int) : Option (Int) :=
  Option.bind (whileM (σ := Int) (ρ := (Unit) ⊕ (Int)) (fun s1332 =>
    bif decide (s1332 < (x1283.length : Int)) then (Option.bind (gxIdx x1283 s1332) fun y1344 =>
    Option.bind (M.i_FirstWith_1 y1344 x1288 x1292) fun r1345 =>
    bif r1345 then some (.inr (.inr s1332))
    else some (.inl (w64 (s1332 + 1))))
    else some (.inr (.inl ()))) gxFuel 0) fun out1339 => Sum.elim (fun (o1342 : Unit) =>
  some (-1)) (fun r => some r) out1339
def M.i_FirstWith (x1242 : List Event) (x1247 : ByteArray) (x1248 : Int) : Option (Int × Bool) :=
  Option.bind (α := Bool) (Option.bind (M.i_IsRecord x1242) fun r1269 =>
  bif !r1269 then some true
  else (Option.bind (M.i_isWord16 x1248) fun r1274 =>
  some (!r1274))) fun o1266 =>
  bif o1266 then some (0, false)
  else (Option.bind (M.slices_IndexFunc_59__i_FirstWith_1 x1242 x1247 x1248) fun r1354 =>
  bif decide (r1354 < 0) then some (0, false)
  else some (r1354, true))
def M.l_FnExactFirstWith (x1114 : List Event) (x1119 : ByteArray) (x1120 : Int) : Option (Bool) :=
  bif decide ((x1119.size : Int) > 1048576) then some true
  else (Option.bind (M.l_szEventS x1114 1048576) fun r1122 =>
  bif decide (r1122 < 0) then some true
  else (Option.bind (M.l_toEventS x1114) fun r1127 =>
  Option.bind (M.s_FirstWith r1127 x1119 x1120) fun r1229 =>
  Option.bind (M.l_toEventS x1114) fun r1233 =>
  Option.bind (M.i_FirstWith r1233 x1119 x1120) fun r1359 =>
  Option.bind (α := Bool) (bif r1359.1 != r1229.1 then some true
  else some (!(r1359.2 == r1229.2))) fun o1364 =>
  bif o1364 then some false
  else (Option.bind (M.l_toEventS x1114) fun r1373 =>
  Option.bind (M.l_eqEventS r1233 r1373) fun r1382 =>
  bif !r1382 then some false
  else some true)))
def M.s_EventsOf (x1407 : List Event) (x1412 : Int) : Option ((List Event) × Bool) :=
  Option.bind (α := Bool) (Option.bind (M.s_l22Good x1407) fun r1437 =>
  bif !r1437 then some true
  else (Option.bind (M.s_l22Guest x1412) fun r1442 =>
  some (!r1442))) fun o1434 =>
  bif o1434 then some (([] : List Event), false)
  else (Option.bind (whileM (σ := List Event × Int) (ρ := List Event) (fun s1552 =>
    bif decide (s1552.2 < (x1407.length : Int)) then (Option.bind (gxIdx x1407 s1552.2) fun y1574 =>
    Option.bind (α := List Event) (bif y1574.Guest == x1412 then (Option.bind (gxIdx x1407 s1552.2) fun y1601 =>
    Option.bind (gxApp 40 s1552.1 [y1601]) fun ap1609 =>
    some ap1609)
    else some s1552.1) fun o1592 =>
    some (.inl (o1592, w64 (s1552.2 + 1))))
    else some (.inr s1552.1)) gxFuel (([] : List Event), 0)) fun out1559 =>
  some (out1559, true))
def M.i_EventsOf_1 (x1761 : Event) (x1762 : Int) : Option (Bool) :=
  some (x1761.Guest == x1762)
def M.i_eventsWhere_1__i_EventsOf_1 (x1749 : Event) (x1750 : Int) : Option (Bool) :=
  Option.bind (M.i_EventsOf_1 x1749 x1750) fun r1770 =>
  some (!r1770)
def M.slices_IndexFunc_59__i_eventsWhere_1__i_EventsOf_1 (x1735 : List Event) (x1740 : Int) : Option (Int) :=
  Option.bind (whileM (σ := Int) (ρ := (Unit) ⊕ (Int)) (fun s1786 =>
    bif decide (s1786 < (x1735.length : Int)) then (Option.bind (gxIdx x1735 s1786) fun y1798 =>
    Option.bind (M.i_eventsWhere_1__i_EventsOf_1 y1798 x1740) fun r1799 =>
    bif r1799 then some (.inr (.inr s1786))
    else some (.inl (w64 (s1786 + 1))))
    else some (.inr (.inl ()))) gxFuel 0) fun out1793 => Sum.elim (fun (o1796 : Unit) =>
  some (-1)) (fun r => some r) out1793
def M.slices_DeleteFunc_81__i_eventsWhere_1__i_EventsOf_1 (x1839 : List Event) (x1845 : Int) : Option ((List Event) × (List Event)) :=
  Option.bind (M.slices_IndexFunc_59__i_eventsWhere_1__i_EventsOf_1 x1839 x1845) fun r1859 =>
  bif r1859 == (-1) then some (x1839, x1839)
  else (Option.bind (whileM (σ := Int × Int × List Event) (ρ := Int × List Event) (fun s1935 =>
    bif decide (s1935.2.1 < (s1935.2.2.length : Int)) then (Option.bind (gxIdx s1935.2.2 s1935.2.1) fun y1953 =>
    Option.bind (M.i_eventsWhere_1__i_EventsOf_1 y1953 x1845) fun r1960 =>
    Option.bind (α := Int × List Event) (bif !r1960 then (Option.bind (gxIdx s1935.2.2 s1935.1) fun y1977 =>
    some (w64 (s1935.1 + 1), (s1935.2.2.set s1935.1.toNat y1953)))
    else some (s1935.1, s1935.2.2)) fun o1970 =>
    some (.inl (o1970.1, w64 (s1935.2.1 + 1), o1970.2)))
    else some (.inr (s1935.1, s1935.2.2))) gxFuel (r1859, w64 (r1859 + 1), x1839)) fun out1942 =>
  Option.bind (gxSlice out1942.2 out1942.1 (out1942.2.length : Int)) fun ys1990 =>
  Option.bind (gxSlice (gxClear out1942.2 out1942.1 (out1942.2.length : Int) ((⟨0, 0, ByteArray.empty, 0⟩ : Event) : Event)) 0 out1942.1) fun ys1996 =>
  some (ys1996, (gxClear out1942.2 out1942.1 (out1942.2.length : Int) ((⟨0, 0, ByteArray.empty, 0⟩ : Event) : Event))))
def M.i_eventsWhere__i_EventsOf_1 (x1685 : List Event) (x1690 : Int) : Option ((List Event)) :=
  Option.bind (gxApp 40 ([] : List Event) x1685) fun ap1710 =>
  Option.bind (M.slices_DeleteFunc_81__i_eventsWhere_1__i_EventsOf_1 ap1710 x1690) fun r1998 =>
  some r1998.1
def M.i_EventsOf (x1643 : List Event) (x1648 : Int) : Option ((List Event) × Bool) :=
  Option.bind (α := Bool) (Option.bind (M.i_IsRecord x1643) fun r1670 =>
  bif !r1670 then some true
  else (Option.bind (M.i_isParty x1648) fun r1675 =>
  some (!r1675))) fun o1667 =>
  bif o1667 then some (([] : List Event), false)
  else (Option.bind (M.i_eventsWhere__i_EventsOf_1 x1643 x1648) fun r2012 =>
  some (r2012, true))
def M.l_markText (x2083 : Int) : Option (ByteArray) :=
  bif decide (x2083 ≤ 0) then some (ByteArray.mk #[109, 48])
  else (Option.bind (whileM (σ := Int × ByteArray) (ρ := ByteArray) (fun s2103 =>
    bif decide (s2103.1 > 0) then (Option.bind (gxSCat (gxStr [IntKind.u8.wrap (w64 (48 + (s2103.1.tmod 10)))]) s2103.2) fun q2122 =>
    some (.inl (w64 (s2103.1.tdiv 10), q2122)))
    else some (.inr s2103.2)) gxFuel (x2083, (ByteArray.mk #[]))) fun out2110 =>
  Option.bind (gxSCat (ByteArray.mk #[109]) out2110) fun q2127 =>
  some q2127)
def M.l_markEventS (x2062 : List Event) (x2068 : Int) : Option (Int × (List Event)) :=
  Option.bind (whileM (σ := Int × Int × List Event) (ρ := Int × List Event) (fun s2176 =>
    bif decide (s2176.2.1 < (s2176.2.2.length : Int)) then (Option.bind (gxIdx s2176.2.2 s2176.2.1) fun y2194 =>
    Option.bind (gxIdx (s2176.2.2.set s2176.2.1.toNat (⟨s2176.1, y2194.Guest, y2194.Kind, y2194.Value⟩ : Event)) s2176.2.1) fun y2200 =>
    Option.bind (M.l_markText (w64 ((w64 (s2176.1 + 1)) + 1))) fun r2206 =>
    Option.bind (gxIdx ((s2176.2.2.set s2176.2.1.toNat (⟨s2176.1, y2194.Guest, y2194.Kind, y2194.Value⟩ : Event)).set s2176.2.1.toNat (⟨(⟨s2176.1, y2194.Guest, y2194.Kind, y2194.Value⟩ : Event).Tick, w64 (s2176.1 + 1), (⟨s2176.1, y2194.Guest, y2194.Kind, y2194.Value⟩ : Event).Kind, (⟨s2176.1, y2194.Guest, y2194.Kind, y2194.Value⟩ : Event).Value⟩ : Event)) s2176.2.1) fun y2210 =>
    Option.bind (gxIdx (((s2176.2.2.set s2176.2.1.toNat (⟨s2176.1, y2194.Guest, y2194.Kind, y2194.Value⟩ : Event)).set s2176.2.1.toNat (⟨(⟨s2176.1, y2194.Guest, y2194.Kind, y2194.Value⟩ : Event).Tick, w64 (s2176.1 + 1), (⟨s2176.1, y2194.Guest, y2194.Kind, y2194.Value⟩ : Event).Kind, (⟨s2176.1, y2194.Guest, y2194.Kind, y2194.Value⟩ : Event).Value⟩ : Event)).set s2176.2.1.toNat (⟨(⟨(⟨s2176.1, y2194.Guest, y2194.Kind, y2194.Value⟩ : Event).Tick, w64 (s2176.1 + 1), (⟨s2176.1, y2194.Guest, y2194.Kind, y2194.Value⟩ : Event).Kind, (⟨s2176.1, y2194.Guest, y2194.Kind, y2194.Value⟩ : Event).Value⟩ : Event).Tick, (⟨(⟨s2176.1, y2194.Guest, y2194.Kind, y2194.Value⟩ : Event).Tick, w64 (s2176.1 + 1), (⟨s2176.1, y2194.Guest, y2194.Kind, y2194.Value⟩ : Event).Kind, (⟨s2176.1, y2194.Guest, y2194.Kind, y2194.Value⟩ : Event).Value⟩ : Event).Guest, r2206, (⟨(⟨s2176.1, y2194.Guest, y2194.Kind, y2194.Value⟩ : Event).Tick, w64 (s2176.1 + 1), (⟨s2176.1, y2194.Guest, y2194.Kind, y2194.Value⟩ : Event).Kind, (⟨s2176.1, y2194.Guest, y2194.Kind, y2194.Value⟩ : Event).Value⟩ : Event).Value⟩ : Event)) s2176.2.1) fun y2216 =>
    some (.inl (w64 ((w64 ((w64 ((w64 (s2176.1 + 1)) + 1)) + 1)) + 1), w64 (s2176.2.1 + 1), ((((s2176.2.2.set s2176.2.1.toNat (⟨s2176.1, y2194.Guest, y2194.Kind, y2194.Value⟩ : Event)).set s2176.2.1.toNat (⟨(⟨s2176.1, y2194.Guest, y2194.Kind, y2194.Value⟩ : Event).Tick, w64 (s2176.1 + 1), (⟨s2176.1, y2194.Guest, y2194.Kind, y2194.Value⟩ : Event).Kind, (⟨s2176.1, y2194.Guest, y2194.Kind, y2194.Value⟩ : Event).Value⟩ : Event)).set s2176.2.1.toNat (⟨(⟨(⟨s2176.1, y2194.Guest, y2194.Kind, y2194.Value⟩ : Event).Tick, w64 (s2176.1 + 1), (⟨s2176.1, y2194.Guest, y2194.Kind, y2194.Value⟩ : Event).Kind, (⟨s2176.1, y2194.Guest, y2194.Kind, y2194.Value⟩ : Event).Value⟩ : Event).Tick, (⟨(⟨s2176.1, y2194.Guest, y2194.Kind, y2194.Value⟩ : Event).Tick, w64 (s2176.1 + 1), (⟨s2176.1, y2194.Guest, y2194.Kind, y2194.Value⟩ : Event).Kind, (⟨s2176.1, y2194.Guest, y2194.Kind, y2194.Value⟩ : Event).Value⟩ : Event).Guest, r2206, (⟨(⟨s2176.1, y2194.Guest, y2194.Kind, y2194.Value⟩ : Event).Tick, w64 (s2176.1 + 1), (⟨s2176.1, y2194.Guest, y2194.Kind, y2194.Value⟩ : Event).Kind, (⟨s2176.1, y2194.Guest, y2194.Kind, y2194.Value⟩ : Event).Value⟩ : Event).Value⟩ : Event)).set s2176.2.1.toNat (⟨(⟨(⟨(⟨s2176.1, y2194.Guest, y2194.Kind, y2194.Value⟩ : Event).Tick, w64 (s2176.1 + 1), (⟨s2176.1, y2194.Guest, y2194.Kind, y2194.Value⟩ : Event).Kind, (⟨s2176.1, y2194.Guest, y2194.Kind, y2194.Value⟩ : Event).Value⟩ : Event).Tick, (⟨(⟨s2176.1, y2194.Guest, y2194.Kind, y2194.Value⟩ : Event).Tick, w64 (s2176.1 + 1), (⟨s2176.1, y2194.Guest, y2194.Kind, y2194.Value⟩ : Event).Kind, (⟨s2176.1, y2194.Guest, y2194.Kind, y2194.Value⟩ : Event).Value⟩ : Event).Guest, r2206, (⟨(⟨s2176.1, y2194.Guest, y2194.Kind, y2194.Value⟩ : Event).Tick, w64 (s2176.1 + 1), (⟨s2176.1, y2194.Guest, y2194.Kind, y2194.Value⟩ : Event).Kind, (⟨s2176.1, y2194.Guest, y2194.Kind, y2194.Value⟩ : Event).Value⟩ : Event).Value⟩ : Event).Tick, (⟨(⟨(⟨s2176.1, y2194.Guest, y2194.Kind, y2194.Value⟩ : Event).Tick, w64 (s2176.1 + 1), (⟨s2176.1, y2194.Guest, y2194.Kind, y2194.Value⟩ : Event).Kind, (⟨s2176.1, y2194.Guest, y2194.Kind, y2194.Value⟩ : Event).Value⟩ : Event).Tick, (⟨(⟨s2176.1, y2194.Guest, y2194.Kind, y2194.Value⟩ : Event).Tick, w64 (s2176.1 + 1), (⟨s2176.1, y2194.Guest, y2194.Kind, y2194.Value⟩ : Event).Kind, (⟨s2176.1, y2194.Guest, y2194.Kind, y2194.Value⟩ : Event).Value⟩ : Event).Guest, r2206, (⟨(⟨s2176.1, y2194.Guest, y2194.Kind, y2194.Value⟩ : Event).Tick, w64 (s2176.1 + 1), (⟨s2176.1, y2194.Guest, y2194.Kind, y2194.Value⟩ : Event).Kind, (⟨s2176.1, y2194.Guest, y2194.Kind, y2194.Value⟩ : Event).Value⟩ : Event).Value⟩ : Event).Guest, (⟨(⟨(⟨s2176.1, y2194.Guest, y2194.Kind, y2194.Value⟩ : Event).Tick, w64 (s2176.1 + 1), (⟨s2176.1, y2194.Guest, y2194.Kind, y2194.Value⟩ : Event).Kind, (⟨s2176.1, y2194.Guest, y2194.Kind, y2194.Value⟩ : Event).Value⟩ : Event).Tick, (⟨(⟨s2176.1, y2194.Guest, y2194.Kind, y2194.Value⟩ : Event).Tick, w64 (s2176.1 + 1), (⟨s2176.1, y2194.Guest, y2194.Kind, y2194.Value⟩ : Event).Kind, (⟨s2176.1, y2194.Guest, y2194.Kind, y2194.Value⟩ : Event).Value⟩ : Event).Guest, r2206, (⟨(⟨s2176.1, y2194.Guest, y2194.Kind, y2194.Value⟩ : Event).Tick, w64 (s2176.1 + 1), (⟨s2176.1, y2194.Guest, y2194.Kind, y2194.Value⟩ : Event).Kind, (⟨s2176.1, y2194.Guest, y2194.Kind, y2194.Value⟩ : Event).Value⟩ : Event).Value⟩ : Event).Kind, w64 ((w64 ((w64 (s2176.1 + 1)) + 1)) + 1)⟩ : Event)))))
    else some (.inr (s2176.1, s2176.2.2))) gxFuel (x2068, 0, x2062)) fun out2183 =>
  some (out2183.1, out2183.2)
def M.l_heldEventS (x2260 : List Event) (x2265 : Int) : Option (Int) :=
  Option.bind (whileM (σ := Int × Int) (ρ := (Int) ⊕ (Int)) (fun s2296 =>
    bif decide (s2296.2 < (x2260.length : Int)) then (Option.bind (gxIdx x2260 s2296.2) fun y2308 =>
    bif y2308.Tick != s2296.1 then some (.inr (.inr (-1)))
    else (Option.bind (gxIdx x2260 s2296.2) fun y2310 =>
    bif y2310.Guest != (w64 (s2296.1 + 1)) then some (.inr (.inr (-1)))
    else (Option.bind (gxIdx x2260 s2296.2) fun y2312 =>
    Option.bind (M.l_markText (w64 ((w64 (s2296.1 + 1)) + 1))) fun r2313 =>
    bif !(y2312.Kind.toList == r2313.toList) then some (.inr (.inr (-1)))
    else (Option.bind (gxIdx x2260 s2296.2) fun y2320 =>
    bif y2320.Value != (w64 ((w64 ((w64 (s2296.1 + 1)) + 1)) + 1)) then some (.inr (.inr (-1)))
    else some (.inl (w64 ((w64 ((w64 ((w64 (s2296.1 + 1)) + 1)) + 1)) + 1), w64 (s2296.2 + 1)))))))
    else some (.inr (.inl s2296.1))) gxFuel (x2265, 0)) fun out2303 => Sum.elim (fun (o2306 : Int) =>
  some o2306) (fun r => some r) out2303
def M.l_FnExactEventsOf (x1387 : List Event) (x1392 : Int) : Option (Bool) :=
  Option.bind (M.l_szEventS x1387 1048576) fun r1393 =>
  bif decide (r1393 < 0) then some true
  else (Option.bind (M.l_toEventS x1387) fun r1398 =>
  Option.bind (M.s_EventsOf r1398 x1392) fun r1625 =>
  Option.bind (M.l_toEventS x1387) fun r1634 =>
  Option.bind (M.i_EventsOf r1634 x1392) fun r2021 =>
  Option.bind (α := Bool) (Option.bind (M.l_eqEventS r2021.1 r1625.1) fun r2038 =>
  bif !r2038 then some true
  else some (!(r2021.2 == r1625.2))) fun o2035 =>
  bif o2035 then some false
  else (Option.bind (M.l_toEventS x1387) fun r2048 =>
  Option.bind (M.l_eqEventS r1634 r2048) fun r2057 =>
  bif !r2057 then some false
  else (Option.bind (M.l_markEventS r1634 1) fun r2226 =>
  Option.bind (α := Bool) (bif decide (r2226.1 < 0) then some true
  else (Option.bind (M.l_eqEventS r2021.1 r1625.1) fun r2243 =>
  bif !r2243 then some true
  else some (!(r2021.2 == r1625.2)))) fun o2239 =>
  bif o2239 then some false
  else (Option.bind (M.l_markEventS r2021.1 1) fun r2253 =>
  Option.bind (M.l_heldEventS r2253.2 1) fun r2326 =>
  bif decide (r2326 < 0) then some false
  else (bif r2326 != r2253.1 then some false
  else (Option.bind (M.l_toEventS x1387) fun r2332 =>
  Option.bind (M.i_EventsOf r2332 x1392) fun r2341 =>
  Option.bind (α := Bool) (Option.bind (M.l_eqEventS r2341.1 r1625.1) fun r2358 =>
  bif !r2358 then some true
  else some (!(r2341.2 == r1625.2))) fun o2355 =>
  bif o2355 then some false
  else (Option.bind (M.l_heldEventS r2253.2 1) fun r2368 =>
  bif decide (r2368 < 0) then some false
  else (bif r2368 != r2253.1 then some false
  else some true))))))))
def M.s_EventsWithin (x2395 : List Event) (x2400 : Int) (x2401 : Int) : Option ((List Event) × Bool) :=
  Option.bind (α := Bool) (Option.bind (M.s_l22Good x2395) fun r2432 =>
  bif !r2432 then some true
  else (Option.bind (M.s_l11Tick x2400) fun r2437 =>
  bif !r2437 then some true
  else (Option.bind (M.s_l11Tick x2401) fun r2442 =>
  bif !r2442 then some true
  else some (decide (x2400 > x2401))))) fun o2429 =>
  bif o2429 then some (([] : List Event), false)
  else (Option.bind (whileM (σ := List Event × Int) (ρ := List Event) (fun s2561 =>
    bif decide (s2561.2 < (x2395.length : Int)) then (Option.bind (gxIdx x2395 s2561.2) fun y2583 =>
    Option.bind (M.s_l1In y2583.Tick x2400 x2401) fun r2584 =>
    Option.bind (α := List Event) (bif r2584 then (Option.bind (gxIdx x2395 s2561.2) fun y2614 =>
    Option.bind (gxApp 40 s2561.1 [y2614]) fun ap2622 =>
    some ap2622)
    else some s2561.1) fun o2605 =>
    some (.inl (o2605, w64 (s2561.2 + 1))))
    else some (.inr s2561.1)) gxFuel (([] : List Event), 0)) fun out2568 =>
  some (out2568, true))
def M.i_EventsWithin_1 (x2811 : Event) (x2812 : Int) (x2816 : Int) : Option (Bool) :=
  Option.bind (M.i_inside x2811.Tick x2812 x2816) fun r2824 =>
  some r2824
def M.i_eventsWhere_1__i_EventsWithin_1 (x2795 : Event) (x2796 : Int) (x2800 : Int) : Option (Bool) :=
  Option.bind (M.i_EventsWithin_1 x2795 x2796 x2800) fun r2828 =>
  some (!r2828)
def M.slices_IndexFunc_59__i_eventsWhere_1__i_EventsWithin_1 (x2777 : List Event) (x2782 : Int) (x2786 : Int) : Option (Int) :=
  Option.bind (whileM (σ := Int) (ρ := (Unit) ⊕ (Int)) (fun s2844 =>
    bif decide (s2844 < (x2777.length : Int)) then (Option.bind (gxIdx x2777 s2844) fun y2856 =>
    Option.bind (M.i_eventsWhere_1__i_EventsWithin_1 y2856 x2782 x2786) fun r2857 =>
    bif r2857 then some (.inr (.inr s2844))
    else some (.inl (w64 (s2844 + 1))))
    else some (.inr (.inl ()))) gxFuel 0) fun out2851 => Sum.elim (fun (o2854 : Unit) =>
  some (-1)) (fun r => some r) out2851
def M.slices_DeleteFunc_81__i_eventsWhere_1__i_EventsWithin_1 (x2752 : List Event) (x2758 : Int) (x2763 : Int) : Option ((List Event) × (List Event)) :=
  Option.bind (M.slices_IndexFunc_59__i_eventsWhere_1__i_EventsWithin_1 x2752 x2758 x2763) fun r2866 =>
  bif r2866 == (-1) then some (x2752, x2752)
  else (Option.bind (whileM (σ := Int × Int × List Event) (ρ := Int × List Event) (fun s2942 =>
    bif decide (s2942.2.1 < (s2942.2.2.length : Int)) then (Option.bind (gxIdx s2942.2.2 s2942.2.1) fun y2960 =>
    Option.bind (M.i_eventsWhere_1__i_EventsWithin_1 y2960 x2758 x2763) fun r2967 =>
    Option.bind (α := Int × List Event) (bif !r2967 then (Option.bind (gxIdx s2942.2.2 s2942.1) fun y2984 =>
    some (w64 (s2942.1 + 1), (s2942.2.2.set s2942.1.toNat y2960)))
    else some (s2942.1, s2942.2.2)) fun o2977 =>
    some (.inl (o2977.1, w64 (s2942.2.1 + 1), o2977.2)))
    else some (.inr (s2942.1, s2942.2.2))) gxFuel (r2866, w64 (r2866 + 1), x2752)) fun out2949 =>
  Option.bind (gxSlice out2949.2 out2949.1 (out2949.2.length : Int)) fun ys2997 =>
  Option.bind (gxSlice (gxClear out2949.2 out2949.1 (out2949.2.length : Int) ((⟨0, 0, ByteArray.empty, 0⟩ : Event) : Event)) 0 out2949.1) fun ys3003 =>
  some (ys3003, (gxClear out2949.2 out2949.1 (out2949.2.length : Int) ((⟨0, 0, ByteArray.empty, 0⟩ : Event) : Event))))
def M.i_eventsWhere__i_EventsWithin_1 (x2715 : List Event) (x2720 : Int) (x2724 : Int) : Option ((List Event)) :=
  Option.bind (gxApp 40 ([] : List Event) x2715) fun ap2744 =>
  Option.bind (M.slices_DeleteFunc_81__i_eventsWhere_1__i_EventsWithin_1 ap2744 x2720 x2724) fun r3005 =>
  some r3005.1
def M.i_EventsWithin (x2656 : List Event) (x2661 : Int) (x2662 : Int) : Option ((List Event) × Bool) :=
  Option.bind (α := Bool) (Option.bind (M.i_IsRecord x2656) fun r2694 =>
  bif !r2694 then some true
  else (Option.bind (M.i_isTick x2661) fun r2699 =>
  bif !r2699 then some true
  else (Option.bind (M.i_isTick x2662) fun r2704 =>
  bif !r2704 then some true
  else some (decide (x2661 > x2662))))) fun o2691 =>
  bif o2691 then some (([] : List Event), false)
  else (Option.bind (M.i_eventsWhere__i_EventsWithin_1 x2656 x2661 x2662) fun r3019 =>
  some (r3019, true))
def M.l_FnExactEventsWithin (x2374 : List Event) (x2379 : Int) (x2380 : Int) : Option (Bool) :=
  Option.bind (M.l_szEventS x2374 1048576) fun r2381 =>
  bif decide (r2381 < 0) then some true
  else (Option.bind (M.l_toEventS x2374) fun r2386 =>
  Option.bind (M.s_EventsWithin r2386 x2379 x2380) fun r2638 =>
  Option.bind (M.l_toEventS x2374) fun r2647 =>
  Option.bind (M.i_EventsWithin r2647 x2379 x2380) fun r3028 =>
  Option.bind (α := Bool) (Option.bind (M.l_eqEventS r3028.1 r2638.1) fun r3045 =>
  bif !r3045 then some true
  else some (!(r3028.2 == r2638.2))) fun o3042 =>
  bif o3042 then some false
  else (Option.bind (M.l_toEventS x2374) fun r3055 =>
  Option.bind (M.l_eqEventS r2647 r3055) fun r3064 =>
  bif !r3064 then some false
  else (Option.bind (M.l_markEventS r2647 1) fun r3069 =>
  Option.bind (α := Bool) (bif decide (r3069.1 < 0) then some true
  else (Option.bind (M.l_eqEventS r3028.1 r2638.1) fun r3086 =>
  bif !r3086 then some true
  else some (!(r3028.2 == r2638.2)))) fun o3082 =>
  bif o3082 then some false
  else (Option.bind (M.l_markEventS r3028.1 1) fun r3096 =>
  Option.bind (M.l_heldEventS r3096.2 1) fun r3103 =>
  bif decide (r3103 < 0) then some false
  else (bif r3103 != r3096.1 then some false
  else (Option.bind (M.l_toEventS x2374) fun r3109 =>
  Option.bind (M.i_EventsWithin r3109 x2379 x2380) fun r3118 =>
  Option.bind (α := Bool) (Option.bind (M.l_eqEventS r3118.1 r2638.1) fun r3135 =>
  bif !r3135 then some true
  else some (!(r3118.2 == r2638.2))) fun o3132 =>
  bif o3132 then some false
  else (Option.bind (M.l_heldEventS r3096.2 1) fun r3145 =>
  bif decide (r3145 < 0) then some false
  else (bif r3145 != r3096.1 then some false
  else some true))))))))
def M.s_l22Add (x3200 : List Event) (x3205 : Event) : Option ((List Event)) :=
  Option.bind (whileM (σ := Int) (ρ := Int) (fun s3255 =>
    Option.bind (α := Bool) (bif decide (s3255 > 0) then (Option.bind (gxIdx x3200 (w64 (s3255 - 1))) fun y3276 =>
    some (decide (y3276.Tick > x3205.Tick)))
    else some false) fun o3272 =>
    bif o3272 then some (.inl (w64 (s3255 - 1)))
    else some (.inr s3255)) gxFuel (x3200.length : Int)) fun out3262 =>
  Option.bind (gxSlice x3200 0 out3262) fun ys3297 =>
  Option.bind (gxApp 40 ([] : List Event) ys3297) fun ap3299 =>
  Option.bind (gxApp 40 ap3299 [x3205]) fun ap3310 =>
  Option.bind (gxSlice x3200 out3262 (x3200.length : Int)) fun ys3316 =>
  Option.bind (gxApp 40 ap3310 ys3316) fun ap3365 =>
  some ap3365
def M.s_AddEvent (x3180 : List Event) (x3185 : Event) : Option ((List Event) × Bool) :=
  Option.bind (α := Bool) (Option.bind (M.s_l22Good x3180) fun r3389 =>
  bif !r3389 then some true
  else (Option.bind (M.s_l22Add x3180 x3185) fun r3394 =>
  Option.bind (M.s_l22Good r3394) fun r3403 =>
  some (!r3403))) fun o3386 =>
  bif o3386 then some (([] : List Event), false)
  else (Option.bind (M.s_l22Add x3180 x3185) fun r3419 =>
  some (r3419, true))
def M.slices_Grow_91__n0 (x3606 : Int) : Option ((List Event)) :=
  gxGrow 40 x3606
def M.slices_Concat_83 (x3549 : List (List Event)) : Option ((List Event)) :=
  Option.bind (whileM (σ := Int × Int) (ρ := Int) (fun s3579 =>
    bif decide (s3579.2 < (x3549.length : Int)) then (Option.bind (gxIdx x3549 s3579.2) fun y3591 =>
    bif decide ((w64 (s3579.1 + (y3591.length : Int))) < 0) then (none)
    else some (.inl (w64 (s3579.1 + (y3591.length : Int)), w64 (s3579.2 + 1))))
    else some (.inr s3579.1)) gxFuel (0, 0)) fun out3586 =>
  Option.bind (M.slices_Grow_91__n0 out3586) fun r3611 =>
  Option.bind (whileM (σ := List Event × Int) (ρ := List Event) (fun s3659 =>
    bif decide (s3659.2 < (x3549.length : Int)) then (Option.bind (gxIdx x3549 s3659.2) fun y3681 =>
    Option.bind (gxApp 40 s3659.1 y3681) fun ap3689 =>
    some (.inl (ap3689, w64 (s3659.2 + 1))))
    else some (.inr s3659.1)) gxFuel (r3611, 0)) fun out3666 =>
  some out3666
def M.cmp_isNaN_93 (x3745 : Int) : Option (Bool) :=
  some (x3745 != x3745)
def M.cmp_Compare_86 (x3743 : Int) (x3744 : Int) : Option (Int) :=
  Option.bind (M.cmp_isNaN_93 x3743) fun r3746 =>
  Option.bind (M.cmp_isNaN_93 x3744) fun r3750 =>
  bif r3746 then (bif r3750 then some 0
  else some (-1))
  else (bif r3750 then some 1
  else (bif decide (x3743 < x3744) then some (-1)
  else (bif decide (x3743 > x3744) then some 1
  else some 0)))
def M.i_merged_1 (x3733 : Event) (x3734 : Event) : Option (Int) :=
  Option.bind (M.cmp_Compare_86 x3733.Tick x3734.Tick) fun r3759 =>
  some r3759
def M.slices_insertionSortCmpFunc_105__i_merged_1 (x3795 : List Event) (x3801 : Int) (x3802 : Int) : Option ((List Event)) :=
  Option.bind (whileM (σ := Int × List Event) (ρ := List Event) (fun s4523 =>
    bif decide (s4523.1 < x3802) then (Option.bind (whileM (σ := Int × List Event) (ρ := List Event) (fun s4766 =>
      Option.bind (α := Bool) (bif decide (s4766.1 > x3801) then (Option.bind (gxIdx s4766.2 s4766.1) fun y4798 =>
      Option.bind (gxIdx s4766.2 (w64 (s4766.1 - 1))) fun y4799 =>
      Option.bind (M.i_merged_1 y4798 y4799) fun r4800 =>
      some (decide (r4800 < 0)))
      else some false) fun o4794 =>
      bif o4794 then (Option.bind (gxIdx s4766.2 (w64 (s4766.1 - 1))) fun y4815 =>
      Option.bind (gxIdx s4766.2 s4766.1) fun y4816 =>
      Option.bind (gxIdx s4766.2 s4766.1) fun y4817 =>
      Option.bind (gxIdx (s4766.2.set s4766.1.toNat y4815) (w64 (s4766.1 - 1))) fun y4889 =>
      some (.inl (w64 (s4766.1 - 1), ((s4766.2.set s4766.1.toNat y4815).set (w64 (s4766.1 - 1)).toNat y4816))))
      else some (.inr s4766.2)) gxFuel (s4523.1, s4523.2)) fun out4773 =>
    some (.inl (w64 (s4523.1 + 1), out4773)))
    else some (.inr s4523.2)) gxFuel (w64 (x3801 + 1), x3795)) fun out4530 =>
  some out4530
def M.slices_swapRangeCmpFunc_115__i_merged_1 (x5854 : List Event) (x5860 : Int) (x5861 : Int) (x5862 : Int) : Option ((List Event)) :=
  Option.bind (whileM (σ := Int × List Event) (ρ := List Event) (fun s6079 =>
    bif decide (s6079.1 < x5862) then (Option.bind (gxIdx s6079.2 (w64 (x5861 + s6079.1))) fun y6099 =>
    Option.bind (gxIdx s6079.2 (w64 (x5860 + s6079.1))) fun y6100 =>
    Option.bind (gxIdx s6079.2 (w64 (x5860 + s6079.1))) fun y6101 =>
    Option.bind (gxIdx (s6079.2.set (w64 (x5860 + s6079.1)).toNat y6099) (w64 (x5861 + s6079.1))) fun y6197 =>
    some (.inl (w64 (s6079.1 + 1), ((s6079.2.set (w64 (x5860 + s6079.1)).toNat y6099).set (w64 (x5861 + s6079.1)).toNat y6100))))
    else some (.inr s6079.2)) gxFuel (0, x5854)) fun out6086 =>
  some out6086
def M.slices_rotateCmpFunc_113__i_merged_1 (x6207 : List Event) (x6213 : Int) (x6214 : Int) (x6215 : Int) : Option ((List Event)) :=
  Option.bind (whileM (σ := Int × Int × List Event) (ρ := Int × List Event) (fun s6302 =>
    bif s6302.1 != s6302.2.1 then (Option.bind (α := Int × Int × List Event) (bif decide (s6302.1 > s6302.2.1) then (Option.bind (M.slices_swapRangeCmpFunc_115__i_merged_1 s6302.2.2 (w64 (x6214 - s6302.1)) x6214 s6302.2.1) fun r6342 =>
    some (w64 (s6302.1 - s6302.2.1), s6302.2.1, r6342))
    else (Option.bind (M.slices_swapRangeCmpFunc_115__i_merged_1 s6302.2.2 (w64 (x6214 - s6302.1)) (w64 ((w64 (x6214 + s6302.2.1)) - s6302.1)) s6302.1) fun r6349 =>
    some (s6302.1, w64 (s6302.2.1 - s6302.1), r6349))) fun o6335 =>
    some (.inl (o6335.1, o6335.2.1, o6335.2.2)))
    else some (.inr (s6302.1, s6302.2.2))) gxFuel (w64 (x6214 - x6213), w64 (x6215 - x6214), x6207)) fun out6309 =>
  Option.bind (M.slices_swapRangeCmpFunc_115__i_merged_1 out6309.2 (w64 (x6214 - out6309.1)) x6214 out6309.1) fun r6364 =>
  some r6364
def M.slices_symMergeCmpFunc_106__i_merged_1 : Nat → (List Event) → Int → Int → Int → Option ((List Event))
  | 0, _, _, _, _ => none
  | n_ + 1, x5052, x5058, x5059, x5060 =>
    bif (w64 (x5059 - x5058)) == 1 then (Option.bind (whileM (σ := Int × Int) (ρ := Int) (fun s5099 =>
      bif decide (s5099.1 < s5099.2) then (Option.bind (gxIdx x5052 (w64 ((IntKind.u64.wrap (w64 (s5099.1 + s5099.2))).fdiv (2 ^ 1)))) fun y5111 =>
      Option.bind (gxIdx x5052 x5058) fun y5112 =>
      Option.bind (M.i_merged_1 y5111 y5112) fun r5113 =>
      Option.bind (α := Int × Int) (bif decide (r5113 < 0) then some (w64 ((w64 ((IntKind.u64.wrap (w64 (s5099.1 + s5099.2))).fdiv (2 ^ 1))) + 1), s5099.2)
      else some (s5099.1, w64 ((IntKind.u64.wrap (w64 (s5099.1 + s5099.2))).fdiv (2 ^ 1)))) fun o5120 =>
      some (.inl (o5120.1, o5120.2)))
      else some (.inr s5099.1)) gxFuel (x5059, x5060)) fun out5106 =>
    Option.bind (whileM (σ := Int × List Event) (ρ := List Event) (fun s5299 =>
      bif decide (s5299.1 < (w64 (out5106 - 1))) then (Option.bind (gxIdx s5299.2 (w64 (s5299.1 + 1))) fun y5319 =>
      Option.bind (gxIdx s5299.2 s5299.1) fun y5320 =>
      Option.bind (gxIdx s5299.2 s5299.1) fun y5321 =>
      Option.bind (gxIdx (s5299.2.set s5299.1.toNat y5319) (w64 (s5299.1 + 1))) fun y5393 =>
      some (.inl (w64 (s5299.1 + 1), ((s5299.2.set s5299.1.toNat y5319).set (w64 (s5299.1 + 1)).toNat y5320))))
      else some (.inr s5299.2)) gxFuel (x5058, x5052)) fun out5306 =>
    some out5306)
    else (bif (w64 (x5060 - x5059)) == 1 then (Option.bind (whileM (σ := Int × Int) (ρ := Int) (fun s5439 =>
      bif decide (s5439.1 < s5439.2) then (Option.bind (gxIdx x5052 x5059) fun y5451 =>
      Option.bind (gxIdx x5052 (w64 ((IntKind.u64.wrap (w64 (s5439.1 + s5439.2))).fdiv (2 ^ 1)))) fun y5452 =>
      Option.bind (M.i_merged_1 y5451 y5452) fun r5453 =>
      Option.bind (α := Int × Int) (bif !(decide (r5453 < 0)) then some (w64 ((w64 ((IntKind.u64.wrap (w64 (s5439.1 + s5439.2))).fdiv (2 ^ 1))) + 1), s5439.2)
      else some (s5439.1, w64 ((IntKind.u64.wrap (w64 (s5439.1 + s5439.2))).fdiv (2 ^ 1)))) fun o5460 =>
      some (.inl (o5460.1, o5460.2)))
      else some (.inr s5439.1)) gxFuel (x5058, x5059)) fun out5446 =>
    Option.bind (whileM (σ := Int × List Event) (ρ := List Event) (fun s5639 =>
      bif decide (s5639.1 > out5446) then (Option.bind (gxIdx s5639.2 (w64 (s5639.1 - 1))) fun y5659 =>
      Option.bind (gxIdx s5639.2 s5639.1) fun y5660 =>
      Option.bind (gxIdx s5639.2 s5639.1) fun y5661 =>
      Option.bind (gxIdx (s5639.2.set s5639.1.toNat y5659) (w64 (s5639.1 - 1))) fun y5733 =>
      some (.inl (w64 (s5639.1 - 1), ((s5639.2.set s5639.1.toNat y5659).set (w64 (s5639.1 - 1)).toNat y5660))))
      else some (.inr s5639.2)) gxFuel (x5059, x5052)) fun out5646 =>
    some out5646)
    else (Option.bind (α := Int × Int) (bif decide (x5059 > (w64 ((IntKind.u64.wrap (w64 (x5058 + x5060))).fdiv (2 ^ 1)))) then some (w64 ((w64 ((w64 ((IntKind.u64.wrap (w64 (x5058 + x5060))).fdiv (2 ^ 1))) + x5059)) - x5060), w64 ((IntKind.u64.wrap (w64 (x5058 + x5060))).fdiv (2 ^ 1)))
    else some (x5058, x5059)) fun o5743 =>
    Option.bind (whileM (σ := Int × Int) (ρ := Int) (fun s5787 =>
      bif decide (s5787.1 < s5787.2) then (Option.bind (gxIdx x5052 (w64 ((w64 ((w64 ((w64 ((IntKind.u64.wrap (w64 (x5058 + x5060))).fdiv (2 ^ 1))) + x5059)) - 1)) - (w64 ((IntKind.u64.wrap (w64 (s5787.1 + s5787.2))).fdiv (2 ^ 1)))))) fun y5799 =>
      Option.bind (gxIdx x5052 (w64 ((IntKind.u64.wrap (w64 (s5787.1 + s5787.2))).fdiv (2 ^ 1)))) fun y5800 =>
      Option.bind (M.i_merged_1 y5799 y5800) fun r5801 =>
      Option.bind (α := Int × Int) (bif !(decide (r5801 < 0)) then some (w64 ((w64 ((IntKind.u64.wrap (w64 (s5787.1 + s5787.2))).fdiv (2 ^ 1))) + 1), s5787.2)
      else some (s5787.1, w64 ((IntKind.u64.wrap (w64 (s5787.1 + s5787.2))).fdiv (2 ^ 1)))) fun o5808 =>
      some (.inl (o5808.1, o5808.2)))
      else some (.inr s5787.1)) gxFuel (o5743.1, o5743.2)) fun out5794 =>
    Option.bind (α := Bool) (bif decide (out5794 < x5059) then some (decide (x5059 < (w64 ((w64 ((w64 ((IntKind.u64.wrap (w64 (x5058 + x5060))).fdiv (2 ^ 1))) + x5059)) - out5794))))
    else some false) fun o5821 =>
    Option.bind (α := List Event) (bif o5821 then (Option.bind (M.slices_rotateCmpFunc_113__i_merged_1 x5052 out5794 x5059 (w64 ((w64 ((w64 ((IntKind.u64.wrap (w64 (x5058 + x5060))).fdiv (2 ^ 1))) + x5059)) - out5794))) fun r6385 =>
    some r6385)
    else some x5052) fun o6378 =>
    Option.bind (α := Bool) (bif decide (x5058 < out5794) then some (decide (out5794 < (w64 ((IntKind.u64.wrap (w64 (x5058 + x5060))).fdiv (2 ^ 1)))))
    else some false) fun o6397 =>
    Option.bind (α := List Event) (bif o6397 then (Option.bind (M.slices_symMergeCmpFunc_106__i_merged_1 n_ o6378 x5058 out5794 (w64 ((IntKind.u64.wrap (w64 (x5058 + x5060))).fdiv (2 ^ 1)))) fun r6420 =>
    some r6420)
    else some o6378) fun o6413 =>
    Option.bind (α := Bool) (bif decide ((w64 ((IntKind.u64.wrap (w64 (x5058 + x5060))).fdiv (2 ^ 1))) < (w64 ((w64 ((w64 ((IntKind.u64.wrap (w64 (x5058 + x5060))).fdiv (2 ^ 1))) + x5059)) - out5794))) then some (decide ((w64 ((w64 ((w64 ((IntKind.u64.wrap (w64 (x5058 + x5060))).fdiv (2 ^ 1))) + x5059)) - out5794)) < x5060))
    else some false) fun o6432 =>
    Option.bind (α := List Event) (bif o6432 then (Option.bind (M.slices_symMergeCmpFunc_106__i_merged_1 n_ o6413 (w64 ((IntKind.u64.wrap (w64 (x5058 + x5060))).fdiv (2 ^ 1))) (w64 ((w64 ((w64 ((IntKind.u64.wrap (w64 (x5058 + x5060))).fdiv (2 ^ 1))) + x5059)) - out5794)) x5060) fun r6455 =>
    some r6455)
    else some o6413) fun o6448 =>
    some o6448))
def M.slices_stableCmpFunc_92__i_merged_1 (x4903 : List Event) (x4909 : Int) : Option ((List Event)) :=
  Option.bind (whileM (σ := Int × Int × List Event) (ρ := Int × List Event) (fun s4930 =>
    bif decide (s4930.2.1 ≤ x4909) then (Option.bind (M.slices_insertionSortCmpFunc_105__i_merged_1 s4930.2.2 s4930.1 s4930.2.1) fun r4948 =>
    some (.inl (s4930.2.1, w64 (s4930.2.1 + 20), r4948)))
    else some (.inr (s4930.1, s4930.2.2))) gxFuel (0, 20, x4903)) fun out4937 =>
  Option.bind (M.slices_insertionSortCmpFunc_105__i_merged_1 out4937.2 out4937.1 x4909) fun r4959 =>
  Option.bind (whileM (σ := Int × List Event) (ρ := List Event) (fun s6617 =>
    bif decide (s6617.1 < x4909) then (Option.bind (whileM (σ := Int × Int × List Event) (ρ := Int × List Event) (fun s6654 =>
      bif decide (s6654.2.1 ≤ x4909) then (Option.bind (M.slices_symMergeCmpFunc_106__i_merged_1 gxFuel s6654.2.2 s6654.1 (w64 (s6654.1 + s6617.1)) s6654.2.1) fun r6672 =>
      some (.inl (s6654.2.1, w64 (s6654.2.1 + (w64 (2 * s6617.1))), r6672)))
      else some (.inr (s6654.1, s6654.2.2))) gxFuel (0, w64 (2 * s6617.1), s6617.2)) fun out6661 =>
    Option.bind (α := List Event) (bif decide ((w64 (out6661.1 + s6617.1)) < x4909) then (Option.bind (M.slices_symMergeCmpFunc_106__i_merged_1 gxFuel out6661.2 out6661.1 (w64 (out6661.1 + s6617.1)) x4909) fun r6698 =>
    some r6698)
    else some out6661.2) fun o6691 =>
    some (.inl (w64 (s6617.1 * 2), o6691)))
    else some (.inr s6617.2)) gxFuel (20, r4959)) fun out6624 =>
  some out6624
def M.slices_SortStableFunc_84__i_merged_1 (x6714 : List Event) : Option ((List Event)) :=
  Option.bind (M.slices_stableCmpFunc_92__i_merged_1 x6714 (x6714.length : Int)) fun r6721 =>
  some r6721
def M.i_merged (x3517 : List Event) (x3522 : List Event) : Option ((List Event) × Bool) :=
  Option.bind (M.slices_Concat_83 [([] : List Event), x3517, x3522]) fun r3701 =>
  Option.bind (M.slices_SortStableFunc_84__i_merged_1 r3701) fun r6728 =>
  Option.bind (M.i_IsRecord r6728) fun r6735 =>
  bif !r6735 then some (([] : List Event), false)
  else some (r6728, true)
def M.i_AddEvent (x3489 : List Event) (x3494 : Event) : Option ((List Event) × Bool) :=
  Option.bind (M.i_IsRecord x3489) fun r3504 =>
  bif !r3504 then some (([] : List Event), false)
  else (Option.bind (M.i_merged x3489 [x3494]) fun r6741 =>
  some (r6741.1, r6741.2))
def M.l_FnExactAddEvent (x3151 : List Event) (x3156 : Event) : Option (Bool) :=
  Option.bind (M.l_szEventS x3151 1048576) fun r3161 =>
  bif decide (r3161 < 0) then some true
  else (Option.bind (M.l_szEvent x3156 r3161) fun r3166 =>
  bif decide (r3166 < 0) then some true
  else (Option.bind (M.l_toEventS x3151) fun r3173 =>
  Option.bind (M.l_toEvent x3156) fun r3179 =>
  Option.bind (M.s_AddEvent r3173 r3179) fun r3428 =>
  Option.bind (M.l_toEventS x3151) fun r3476 =>
  Option.bind (M.l_toEvent x3156) fun r3485 =>
  Option.bind (M.i_AddEvent r3476 r3485) fun r6750 =>
  Option.bind (α := Bool) (Option.bind (M.l_eqEventS r6750.1 r3428.1) fun r6767 =>
  bif !r6767 then some true
  else some (!(r6750.2 == r3428.2))) fun o6764 =>
  bif o6764 then some false
  else (Option.bind (M.l_toEventS x3151) fun r6777 =>
  Option.bind (M.l_eqEventS r3476 r6777) fun r6786 =>
  bif !r6786 then some false
  else (Option.bind (M.l_markEventS r3476 1) fun r6791 =>
  Option.bind (α := Bool) (bif decide (r6791.1 < 0) then some true
  else (Option.bind (M.l_eqEventS r6750.1 r3428.1) fun r6808 =>
  bif !r6808 then some true
  else some (!(r6750.2 == r3428.2)))) fun o6804 =>
  bif o6804 then some false
  else (Option.bind (M.l_markEventS r6750.1 1) fun r6818 =>
  Option.bind (M.l_heldEventS r6818.2 1) fun r6825 =>
  bif decide (r6825 < 0) then some false
  else (bif r6825 != r6818.1 then some false
  else (Option.bind (M.l_toEventS x3151) fun r6833 =>
  Option.bind (M.l_toEvent x3156) fun r6839 =>
  Option.bind (M.i_AddEvent r6833 r6839) fun r6840 =>
  Option.bind (α := Bool) (Option.bind (M.l_eqEventS r6840.1 r3428.1) fun r6896 =>
  bif !r6896 then some true
  else some (!(r6840.2 == r3428.2))) fun o6893 =>
  bif o6893 then some false
  else (Option.bind (M.l_heldEventS r6818.2 1) fun r6906 =>
  bif decide (r6906 < 0) then some false
  else (bif r6906 != r6818.1 then some false
  else some true)))))))))
def M.s_MergeRecords (x6950 : List Event) (x6955 : List Event) : Option ((List Event) × Bool) :=
  Option.bind (α := Bool) (Option.bind (M.s_l22Good x6950) fun r6978 =>
  bif !r6978 then some true
  else (Option.bind (M.s_l22Good x6955) fun r6983 =>
  bif !r6983 then some true
  else some (decide ((w64 ((x6950.length : Int) + (x6955.length : Int))) > 30)))) fun o6975 =>
  bif o6975 then some (([] : List Event), false)
  else (Option.bind (gxApp 40 ([] : List Event) x6950) fun ap7007 =>
  Option.bind (whileM (σ := List Event × Int) (ρ := List Event) (fun s7042 =>
    bif decide (s7042.2 < (x6955.length : Int)) then (Option.bind (gxIdx x6955 s7042.2) fun y7064 =>
    Option.bind (M.s_l22Add s7042.1 y7064) fun r7065 =>
    some (.inl (r7065, w64 (s7042.2 + 1))))
    else some (.inr s7042.1)) gxFuel (ap7007, 0)) fun out7049 =>
  some (out7049, true))
def M.i_MergeRecords (x7105 : List Event) (x7110 : List Event) : Option ((List Event) × Bool) :=
  Option.bind (α := Bool) (Option.bind (M.i_IsRecord x7105) fun r7132 =>
  bif !r7132 then some true
  else (Option.bind (M.i_IsRecord x7110) fun r7137 =>
  some (!r7137))) fun o7129 =>
  bif o7129 then some (([] : List Event), false)
  else (Option.bind (M.i_merged x7105 x7110) fun r7147 =>
  some (r7147.1, r7147.2))
def M.l_FnExactMergeRecords (x6912 : List Event) (x6917 : List Event) : Option (Bool) :=
  Option.bind (M.l_szEventS x6912 1048576) fun r6922 =>
  bif decide (r6922 < 0) then some true
  else (Option.bind (M.l_szEventS x6917 r6922) fun r6927 =>
  bif decide (r6927 < 0) then some true
  else (Option.bind (M.l_toEventS x6912) fun r6932 =>
  Option.bind (M.l_toEventS x6917) fun r6941 =>
  Option.bind (M.s_MergeRecords r6932 r6941) fun r7078 =>
  Option.bind (M.l_toEventS x6912) fun r7087 =>
  Option.bind (M.l_toEventS x6917) fun r7096 =>
  Option.bind (M.i_MergeRecords r7087 r7096) fun r7156 =>
  Option.bind (α := Bool) (Option.bind (M.l_eqEventS r7156.1 r7078.1) fun r7173 =>
  bif !r7173 then some true
  else some (!(r7156.2 == r7078.2))) fun o7170 =>
  bif o7170 then some false
  else (Option.bind (M.l_toEventS x6912) fun r7183 =>
  Option.bind (M.l_eqEventS r7087 r7183) fun r7192 =>
  bif !r7192 then some false
  else (Option.bind (M.l_toEventS x6917) fun r7197 =>
  Option.bind (M.l_eqEventS r7096 r7197) fun r7206 =>
  bif !r7206 then some false
  else (Option.bind (M.l_markEventS r7087 1) fun r7211 =>
  Option.bind (M.l_markEventS r7096 r7211.1) fun r7218 =>
  Option.bind (α := Bool) (bif decide (r7218.1 < 0) then some true
  else (Option.bind (M.l_eqEventS r7156.1 r7078.1) fun r7235 =>
  bif !r7235 then some true
  else some (!(r7156.2 == r7078.2)))) fun o7231 =>
  bif o7231 then some false
  else (Option.bind (M.l_markEventS r7156.1 1) fun r7245 =>
  Option.bind (M.l_heldEventS r7245.2 1) fun r7252 =>
  bif decide (r7252 < 0) then some false
  else (bif r7252 != r7245.1 then some false
  else (Option.bind (M.l_toEventS x6912) fun r7258 =>
  Option.bind (M.l_toEventS x6917) fun r7267 =>
  Option.bind (M.i_MergeRecords r7258 r7267) fun r7276 =>
  Option.bind (α := Bool) (Option.bind (M.l_eqEventS r7276.1 r7078.1) fun r7293 =>
  bif !r7293 then some true
  else some (!(r7276.2 == r7078.2))) fun o7290 =>
  bif o7290 then some false
  else (Option.bind (M.l_heldEventS r7245.2 1) fun r7303 =>
  bif decide (r7303 < 0) then some false
  else (bif r7303 != r7245.1 then some false
  else some true))))))))))
def M.s_CountKinds (x7328 : List Event) : Option ((List ByteArray) × (List Int) × Bool) :=
  Option.bind (M.s_l22Good x7328) fun r7357 =>
  bif !r7357 then some (([] : List ByteArray), ([] : List Int), false)
  else (Option.bind (whileM (σ := List ByteArray × List Int × Int × List Int) (ρ := List ByteArray × List Int × List Int) (fun s8566 =>
    bif decide (s8566.2.2.1 < (x7328.length : Int)) then (Option.bind (α := List ByteArray × List Int × List Int) (Option.bind (whileM (σ := Int) (ρ := Int) (fun s8949 =>
      Option.bind (α := Bool) (bif decide (s8949 < (s8566.1.length : Int)) then (Option.bind (gxIdx s8566.1 s8949) fun y8971 =>
      Option.bind (gxIdx x7328 s8566.2.2.1) fun y8972 =>
      some (Op.bytesLess y8971.toList y8972.Kind.toList))
      else some false) fun o8967 =>
      bif o8967 then some (.inl (w64 (s8949 + 1)))
      else some (.inr s8949)) gxFuel 0) fun out8956 =>
    Option.bind (α := Bool) (bif decide (out8956 < (s8566.1.length : Int)) then (Option.bind (gxIdx s8566.1 out8956) fun y8997 =>
    Option.bind (gxIdx x7328 s8566.2.2.1) fun y8998 =>
    some (y8997.toList == y8998.Kind.toList))
    else some false) fun o8993 =>
    bif o8993 then (Option.bind (gxIdx s8566.2.1 out8956) fun y9008 =>
    Option.bind (gxIdx s8566.2.1 out8956) fun y9009 =>
    some (s8566.1, (s8566.2.1.set out8956.toNat (w64 (y9008 + 1))), (s8566.2.1.set out8956.toNat (w64 (y9008 + 1)))))
    else (Option.bind (gxSlice s8566.1 0 out8956) fun ys9021 =>
    Option.bind (gxApp 16 ([] : List ByteArray) ys9021) fun ap9023 =>
    Option.bind (gxIdx x7328 s8566.2.2.1) fun y9029 =>
    Option.bind (gxApp 16 ap9023 [y9029.Kind]) fun ap9035 =>
    Option.bind (gxSlice s8566.1 out8956 (s8566.1.length : Int)) fun ys9041 =>
    Option.bind (gxApp 16 ap9035 ys9041) fun ap9106 =>
    Option.bind (gxSlice s8566.2.1 0 out8956) fun ys9121 =>
    Option.bind (gxApp 8 ([] : List Int) ys9121) fun ap9123 =>
    Option.bind (gxApp 8 ap9123 [1]) fun ap9134 =>
    Option.bind (gxSlice s8566.2.1 out8956 (s8566.2.1.length : Int)) fun ys9140 =>
    Option.bind (gxApp 8 ap9134 ys9140) fun ap9185 =>
    some (ap9106, ap9185, s8566.2.1))) fun o8890 =>
    some (.inl (o8890.1, o8890.2.1, w64 (s8566.2.2.1 + 1), s8566.2.2.2)))
    else some (.inr (s8566.1, s8566.2.1, s8566.2.2.2))) gxFuel (([] : List ByteArray), ([] : List Int), 0, ([] : List Int))) fun out8573 =>
  some (out8573.1, out8573.2.1, true))
def M.slices_Sort_70 (x9364 : List ByteArray) : Option ((List ByteArray)) :=
  bif decide (x9364.length < 4611686018427387904) then some (gxSortS x9364)
  else none
def M.slices_Compact_71 (x9398 : List ByteArray) : Option ((List ByteArray) × (List ByteArray)) :=
  bif decide (x9398.length < 4611686018427387904) then some (gxCompS x9398, gxCompW x9398)
  else none
def M.i_CountKinds_1 (x9509 : Event) (x9510 : ByteArray) : Option (Bool) :=
  some (x9509.Kind.toList == x9510.toList)
def M.i_eventsWhere_1__i_CountKinds_1 (x9497 : Event) (x9498 : ByteArray) : Option (Bool) :=
  Option.bind (M.i_CountKinds_1 x9497 x9498) fun r9518 =>
  some (!r9518)
def M.slices_IndexFunc_59__i_eventsWhere_1__i_CountKinds_1 (x9483 : List Event) (x9488 : ByteArray) : Option (Int) :=
  Option.bind (whileM (σ := Int) (ρ := (Unit) ⊕ (Int)) (fun s9534 =>
    bif decide (s9534 < (x9483.length : Int)) then (Option.bind (gxIdx x9483 s9534) fun y9546 =>
    Option.bind (M.i_eventsWhere_1__i_CountKinds_1 y9546 x9488) fun r9547 =>
    bif r9547 then some (.inr (.inr s9534))
    else some (.inl (w64 (s9534 + 1))))
    else some (.inr (.inl ()))) gxFuel 0) fun out9541 => Sum.elim (fun (o9544 : Unit) =>
  some (-1)) (fun r => some r) out9541
def M.slices_DeleteFunc_81__i_eventsWhere_1__i_CountKinds_1 (x9463 : List Event) (x9469 : ByteArray) : Option ((List Event) × (List Event)) :=
  Option.bind (M.slices_IndexFunc_59__i_eventsWhere_1__i_CountKinds_1 x9463 x9469) fun r9556 =>
  bif r9556 == (-1) then some (x9463, x9463)
  else (Option.bind (whileM (σ := Int × Int × List Event) (ρ := Int × List Event) (fun s9632 =>
    bif decide (s9632.2.1 < (s9632.2.2.length : Int)) then (Option.bind (gxIdx s9632.2.2 s9632.2.1) fun y9650 =>
    Option.bind (M.i_eventsWhere_1__i_CountKinds_1 y9650 x9469) fun r9657 =>
    Option.bind (α := Int × List Event) (bif !r9657 then (Option.bind (gxIdx s9632.2.2 s9632.1) fun y9674 =>
    some (w64 (s9632.1 + 1), (s9632.2.2.set s9632.1.toNat y9650)))
    else some (s9632.1, s9632.2.2)) fun o9667 =>
    some (.inl (o9667.1, w64 (s9632.2.1 + 1), o9667.2)))
    else some (.inr (s9632.1, s9632.2.2))) gxFuel (r9556, w64 (r9556 + 1), x9463)) fun out9639 =>
  Option.bind (gxSlice out9639.2 out9639.1 (out9639.2.length : Int)) fun ys9687 =>
  Option.bind (gxSlice (gxClear out9639.2 out9639.1 (out9639.2.length : Int) ((⟨0, 0, ByteArray.empty, 0⟩ : Event) : Event)) 0 out9639.1) fun ys9693 =>
  some (ys9693, (gxClear out9639.2 out9639.1 (out9639.2.length : Int) ((⟨0, 0, ByteArray.empty, 0⟩ : Event) : Event))))
def M.i_eventsWhere__i_CountKinds_1 (x9430 : List Event) (x9435 : ByteArray) : Option ((List Event)) :=
  Option.bind (gxApp 40 ([] : List Event) x9430) fun ap9455 =>
  Option.bind (M.slices_DeleteFunc_81__i_eventsWhere_1__i_CountKinds_1 ap9455 x9435) fun r9695 =>
  some r9695.1
def M.i_CountKinds (x9224 : List Event) : Option ((List ByteArray) × (List Int) × Bool) :=
  Option.bind (M.i_IsRecord x9224) fun r9239 =>
  bif !r9239 then some (([] : List ByteArray), ([] : List Int), false)
  else (Option.bind (whileM (σ := List ByteArray × Int) (ρ := List ByteArray) (fun s9311 =>
    bif decide (s9311.2 < (x9224.length : Int)) then (Option.bind (gxIdx x9224 s9311.2) fun y9333 =>
    Option.bind (gxApp 16 s9311.1 [y9333.Kind]) fun ap9347 =>
    some (.inl (ap9347, w64 (s9311.2 + 1))))
    else some (.inr s9311.1)) gxFuel (([] : List ByteArray), 0)) fun out9318 =>
  Option.bind (M.slices_Sort_70 out9318) fun r9371 =>
  Option.bind (M.slices_Compact_71 r9371) fun r9408 =>
  Option.bind (whileM (σ := List Int × Int) (ρ := List Int) (fun s9770 =>
    bif decide (s9770.2 < (r9408.1.length : Int)) then (Option.bind (gxIdx r9408.1 s9770.2) fun y9792 =>
    Option.bind (M.i_eventsWhere__i_CountKinds_1 x9224 y9792) fun r9799 =>
    Option.bind (gxApp 8 s9770.1 [(r9799.length : Int)]) fun ap9815 =>
    some (.inl (ap9815, w64 (s9770.2 + 1))))
    else some (.inr s9770.1)) gxFuel (([] : List Int), 0)) fun out9777 =>
  some (r9408.1, out9777, true))
def M.l_eqStringS (x9841 : List ByteArray) (x9846 : List ByteArray) : Option (Bool) :=
  bif (x9841.length : Int) != (x9846.length : Int) then some false
  else (Option.bind (whileM (σ := Int) (ρ := (Unit) ⊕ (Bool)) (fun s9864 =>
    bif decide (s9864 < (x9841.length : Int)) then (Option.bind (gxIdx x9841 s9864) fun y9876 =>
    Option.bind (gxIdx x9846 s9864) fun y9877 =>
    bif !(y9876.toList == y9877.toList) then some (.inr (.inr false))
    else some (.inl (w64 (s9864 + 1))))
    else some (.inr (.inl ()))) gxFuel 0) fun out9871 => Sum.elim (fun (o9874 : Unit) =>
  some true) (fun r => some r) out9871)
def M.l_eqIntS (x9890 : List Int) (x9895 : List Int) : Option (Bool) :=
  bif (x9890.length : Int) != (x9895.length : Int) then some false
  else (Option.bind (whileM (σ := Int) (ρ := (Unit) ⊕ (Bool)) (fun s9913 =>
    bif decide (s9913 < (x9890.length : Int)) then (Option.bind (gxIdx x9890 s9913) fun y9925 =>
    Option.bind (gxIdx x9895 s9913) fun y9926 =>
    bif y9925 != y9926 then some (.inr (.inr false))
    else some (.inl (w64 (s9913 + 1))))
    else some (.inr (.inl ()))) gxFuel 0) fun out9920 => Sum.elim (fun (o9923 : Unit) =>
  some true) (fun r => some r) out9920)
def M.l_markStringS (x10008 : List ByteArray) (x10014 : Int) : Option (Int × (List ByteArray)) :=
  Option.bind (whileM (σ := Int × Int × List ByteArray) (ρ := Int × List ByteArray) (fun s10039 =>
    bif decide (s10039.2.1 < (s10039.2.2.length : Int)) then (Option.bind (M.l_markText s10039.1) fun r10057 =>
    Option.bind (gxIdx s10039.2.2 s10039.2.1) fun y10061 =>
    some (.inl (w64 (s10039.1 + 1), w64 (s10039.2.1 + 1), (s10039.2.2.set s10039.2.1.toNat r10057))))
    else some (.inr (s10039.1, s10039.2.2))) gxFuel (x10014, 0, x10008)) fun out10046 =>
  some (out10046.1, out10046.2)
def M.l_markIntS (x10077 : List Int) (x10083 : Int) : Option (Int × (List Int)) :=
  Option.bind (whileM (σ := Int × Int × List Int) (ρ := Int × List Int) (fun s10100 =>
    bif decide (s10100.2.1 < (s10100.2.2.length : Int)) then (Option.bind (gxIdx s10100.2.2 s10100.2.1) fun y10118 =>
    some (.inl (w64 (s10100.1 + 1), w64 (s10100.2.1 + 1), (s10100.2.2.set s10100.2.1.toNat s10100.1))))
    else some (.inr (s10100.1, s10100.2.2))) gxFuel (x10083, 0, x10077)) fun out10107 =>
  some (out10107.1, out10107.2)
def M.l_heldStringS (x10134 : List ByteArray) (x10139 : Int) : Option (Int) :=
  Option.bind (whileM (σ := Int × Int) (ρ := (Int) ⊕ (Int)) (fun s10158 =>
    bif decide (s10158.2 < (x10134.length : Int)) then (Option.bind (gxIdx x10134 s10158.2) fun y10170 =>
    Option.bind (M.l_markText s10158.1) fun r10171 =>
    bif !(y10170.toList == r10171.toList) then some (.inr (.inr (-1)))
    else some (.inl (w64 (s10158.1 + 1), w64 (s10158.2 + 1))))
    else some (.inr (.inl s10158.1))) gxFuel (x10139, 0)) fun out10165 => Sum.elim (fun (o10168 : Int) =>
  some o10168) (fun r => some r) out10165
def M.l_heldIntS (x10187 : List Int) (x10192 : Int) : Option (Int) :=
  Option.bind (whileM (σ := Int × Int) (ρ := (Int) ⊕ (Int)) (fun s10199 =>
    bif decide (s10199.2 < (x10187.length : Int)) then (Option.bind (gxIdx x10187 s10199.2) fun y10211 =>
    bif y10211 != s10199.1 then some (.inr (.inr (-1)))
    else some (.inl (w64 (s10199.1 + 1), w64 (s10199.2 + 1))))
    else some (.inr (.inl s10199.1))) gxFuel (x10192, 0)) fun out10206 => Sum.elim (fun (o10209 : Int) =>
  some o10209) (fun r => some r) out10206
def M.l_FnExactCountKinds (x7309 : List Event) : Option (Bool) :=
  Option.bind (M.l_szEventS x7309 1048576) fun r7314 =>
  bif decide (r7314 < 0) then some true
  else (Option.bind (M.l_toEventS x7309) fun r7319 =>
  Option.bind (M.s_CountKinds r7319) fun r9201 =>
  Option.bind (M.l_toEventS x7309) fun r9215 =>
  Option.bind (M.i_CountKinds r9215) fun r9827 =>
  Option.bind (α := Bool) (Option.bind (M.l_eqStringS r9827.1 r9201.1) fun r9942 =>
  bif !r9942 then some true
  else (Option.bind (M.l_eqIntS r9827.2.1 r9201.2.1) fun r9947 =>
  bif !r9947 then some true
  else some (!(r9827.2.2 == r9201.2.2)))) fun o9939 =>
  bif o9939 then some false
  else (Option.bind (M.l_toEventS x7309) fun r9957 =>
  Option.bind (M.l_eqEventS r9215 r9957) fun r9966 =>
  bif !r9966 then some false
  else (Option.bind (M.l_markEventS r9215 1) fun r9971 =>
  Option.bind (α := Bool) (bif decide (r9971.1 < 0) then some true
  else (Option.bind (M.l_eqStringS r9827.1 r9201.1) fun r9993 =>
  bif !r9993 then some true
  else (Option.bind (M.l_eqIntS r9827.2.1 r9201.2.1) fun r9998 =>
  bif !r9998 then some true
  else some (!(r9827.2.2 == r9201.2.2))))) fun o9989 =>
  bif o9989 then some false
  else (Option.bind (M.l_markStringS r9827.1 1) fun r10070 =>
  Option.bind (M.l_markIntS r9827.2.1 r10070.1) fun r10127 =>
  Option.bind (M.l_heldStringS r10070.2 1) fun r10182 =>
  bif decide (r10182 < 0) then some false
  else (Option.bind (M.l_heldIntS r10127.2 r10182) fun r10217 =>
  bif decide (r10217 < 0) then some false
  else (bif r10217 != r10127.1 then some false
  else (Option.bind (M.l_toEventS x7309) fun r10223 =>
  Option.bind (M.i_CountKinds r10223) fun r10232 =>
  Option.bind (α := Bool) (Option.bind (M.l_eqStringS r10232.1 r9201.1) fun r10259 =>
  bif !r10259 then some true
  else (Option.bind (M.l_eqIntS r10232.2.1 r9201.2.1) fun r10264 =>
  bif !r10264 then some true
  else some (!(r10232.2.2 == r9201.2.2)))) fun o10256 =>
  bif o10256 then some false
  else (Option.bind (M.l_heldStringS r10070.2 1) fun r10274 =>
  bif decide (r10274 < 0) then some false
  else (Option.bind (M.l_heldIntS r10127.2 r10274) fun r10279 =>
  bif decide (r10279 < 0) then some false
  else (bif r10279 != r10127.1 then some false
  else some true))))))))))
def M.l_rBig (x10290 : List Int) : Option (Bool) :=
  some (decide ((x10290.length : Int) > 65536))
def M.s_l1Cur_next (x10371 : l1Cur) : Option (Int × Int × Int) :=
  Option.bind (α := Int) (bif decide (x10371.at_ < (x10371.code.length : Int)) then (Option.bind (gxIdx x10371.code x10371.at_) fun y10389 =>
  some (w64 y10389))
  else some 0) fun o10385 =>
  bif decide ((w64 (x10371.at_ + 1)) ≤ (x10371.code.length : Int)) then some (o10385, w64 (x10371.at_ + 1), IntKind.u64.wrap ((IntKind.u64.wrap ((IntKind.u64.wrap (x10371.seed * 6364136223846793005)) + (IntKind.u64.wrap o10385))) + 843843))
  else some (w64 (gxAnd .u64 ((IntKind.u64.wrap ((IntKind.u64.wrap ((IntKind.u64.wrap (x10371.seed * 6364136223846793005)) + (IntKind.u64.wrap o10385))) + 843843)).fdiv (2 ^ 40)) 255), w64 (x10371.at_ + 1), IntKind.u64.wrap ((IntKind.u64.wrap ((IntKind.u64.wrap (x10371.seed * 6364136223846793005)) + (IntKind.u64.wrap o10385))) + 843843))
def M.s_l1Cur_pick (x10361 : l1Cur) (x10369 : Int) : Option (Int × Int × Int) :=
  bif decide (x10369 ≤ 1) then some (0, x10361.at_, x10361.seed)
  else (Option.bind (M.s_l1Cur_next x10361) fun r10403 =>
  Option.bind (α := Int × Int × Int) (bif decide (x10369 > 200) then (Option.bind (M.s_l1Cur_next (⟨x10361.code, r10403.2.1, r10403.2.2⟩ : l1Cur)) fun r10416 =>
  some (w64 ((w64 (r10403.1 * 256)) + r10416.1), r10416.2.1, r10416.2.2))
  else some (r10403.1, r10403.2.1, r10403.2.2)) fun o10412 =>
  Option.bind (gxRem o10412.1 x10369) fun q10424 =>
  some (q10424, o10412.2.1, o10412.2.2))
def M.s_l1Cur_among (x10347 : l1Cur) (x10355 : List Int) : Option (Int × Int × Int) :=
  Option.bind (M.s_l1Cur_pick x10347 (x10355.length : Int)) fun r10425 =>
  Option.bind (gxIdx x10355 r10425.1) fun y10429 =>
  some (y10429, r10425.2.1, r10425.2.2)
def M.s_l1Cur_of (x10463 : l1Cur) (x10471 : List ByteArray) : Option (ByteArray × Int × Int) :=
  Option.bind (M.s_l1Cur_pick x10463 (x10471.length : Int)) fun r10477 =>
  Option.bind (gxIdx x10471 r10477.1) fun y10481 =>
  some (y10481, r10477.2.1, r10477.2.2)
def M.s_l1Cur_event (x10439 : l1Cur) (x10447 : Int) : Option (Event × Int × Int) :=
  Option.bind (M.s_l1Cur_pick x10439 5) fun r10452 =>
  Option.bind (M.s_l1Cur_of (⟨x10439.code, r10452.2.1, r10452.2.2⟩ : l1Cur) [(ByteArray.mk #[116, 114, 97, 112]), (ByteArray.mk #[116, 114, 97, 112]), (ByteArray.mk #[104, 97, 108, 116]), (ByteArray.mk #[105, 114, 113]), (ByteArray.mk #[119, 97, 107, 101]), (ByteArray.mk #[97]), (ByteArray.mk #[108, 111, 110, 103, 119, 111, 114, 100])]) fun r10482 =>
  Option.bind (M.s_l1Cur_among (⟨x10439.code, r10482.2.1, r10482.2.2⟩ : l1Cur) [0, 0, 1, 7, 255, 65535]) fun r10493 =>
  Option.bind (M.s_l1Cur_pick (⟨x10439.code, r10493.2.1, r10493.2.2⟩ : l1Cur) 80) fun r10503 =>
  Option.bind (α := Int × Int × Int × Int × ByteArray × Int) (bif r10503.1 == 0 then (Option.bind (M.s_l1Cur_among (⟨x10439.code, r10503.2.1, r10503.2.2⟩ : l1Cur) [(-1), 100000, 100001]) fun r10777 =>
  some (r10777.2.1, r10777.2.2, r10777.1, r10452.1, r10482.1, r10493.1))
  else (Option.bind (α := Int × Int × Int × ByteArray × Int) (bif r10503.1 == 1 then (Option.bind (M.s_l1Cur_among (⟨x10439.code, r10503.2.1, r10503.2.2⟩ : l1Cur) [(-1), 5]) fun r10913 =>
  some (r10913.2.1, r10913.2.2, r10913.1, r10482.1, r10493.1))
  else (Option.bind (α := Int × Int × ByteArray × Int) (bif r10503.1 == 2 then (Option.bind (M.s_l1Cur_of (⟨x10439.code, r10503.2.1, r10503.2.2⟩ : l1Cur) [(ByteArray.mk #[]), (ByteArray.mk #[65]), (ByteArray.mk #[110, 105, 110, 101, 99, 104, 97, 114, 115])]) fun r10979 =>
  some (r10979.2.1, r10979.2.2, r10979.1, r10493.1))
  else (Option.bind (α := Int × Int × Int) (bif r10503.1 == 3 then (Option.bind (M.s_l1Cur_among (⟨x10439.code, r10503.2.1, r10503.2.2⟩ : l1Cur) [(-1), 65536]) fun r11010 =>
  some (r11010.2.1, r11010.2.2, r11010.1))
  else some (r10503.2.1, r10503.2.2, r10493.1)) fun o10999 =>
  some (o10999.1, o10999.2.1, r10482.1, o10999.2.2))) fun o10968 =>
  some (o10968.1, o10968.2.1, r10452.1, o10968.2.2.1, o10968.2.2.2))) fun o10902 =>
  some (o10902.1, o10902.2.1, x10447, o10902.2.2.1, o10902.2.2.2.1, o10902.2.2.2.2))) fun o10766 =>
  some ((⟨o10766.2.2.1, o10766.2.2.2.1, o10766.2.2.2.2.1, o10766.2.2.2.2.2⟩ : Event), o10766.1, o10766.2.1)
def M.s_l1Least (x11064 : Int) (x11065 : Int) : Option (Int) :=
  bif decide (x11064 < x11065) then some x11064
  else some x11065
def M.s_l1Cur_record22 (x10320 : l1Cur) : Option ((List Event) × Int × Int) :=
  Option.bind (M.s_l1Cur_among x10320 [0, 3, 99990]) fun r10430 =>
  Option.bind (M.s_l1Cur_pick (⟨x10320.code, r10430.2.1, r10430.2.2⟩ : l1Cur) 9) fun r10434 =>
  Option.bind (whileM (σ := List Event × Int × Int × Int × Int) (ρ := List Event × Int × Int) (fun s11111 =>
    bif decide (s11111.2.2.1 > 0) then (Option.bind (M.s_l1Cur_event (⟨x10320.code, s11111.2.2.2.1, s11111.2.2.2.2⟩ : l1Cur) s11111.2.1) fun r11133 =>
    Option.bind (gxApp 40 s11111.1 [r11133.1]) fun ap11144 =>
    Option.bind (M.s_l1Cur_among (⟨x10320.code, r11133.2.1, r11133.2.2⟩ : l1Cur) [0, 0, 1, 5, 30]) fun r11159 =>
    Option.bind (M.s_l1Least 100000 (w64 (s11111.2.1 + r11159.1))) fun r11163 =>
    some (.inl (ap11144, r11163, w64 (s11111.2.2.1 - 1), r11159.2.1, r11159.2.2)))
    else some (.inr (s11111.1, s11111.2.2.2.1, s11111.2.2.2.2))) gxFuel (([] : List Event), r10430.1, r10434.1, r10434.2.1, r10434.2.2)) fun out11118 =>
  Option.bind (M.s_l1Cur_pick (⟨x10320.code, out11118.2.1, out11118.2.2⟩ : l1Cur) 30) fun r11171 =>
  Option.bind (α := List Event × Int × Int) (bif r11171.1 == 0 then (Option.bind (M.s_l1Cur_event (⟨x10320.code, r11171.2.1, r11171.2.2⟩ : l1Cur) 1) fun r11398 =>
  Option.bind (gxApp 40 out11118.1 [r11398.1]) fun ap11409 =>
  some (ap11409, r11398.2.1, r11398.2.2))
  else (Option.bind (α := List Event × Int × Int) (bif r11171.1 == 1 then (Option.bind (whileM (σ := List Event × Int × Int) (ρ := List Event × Int × Int) (fun s11562 =>
    Option.bind (M.s_l1Cur_pick (⟨x10320.code, s11562.2.1, s11562.2.2⟩ : l1Cur) 2) fun r11583 =>
    bif decide ((s11562.1.length : Int) < (w64 (30 + r11583.1))) then (Option.bind (gxApp 40 s11562.1 [(⟨100000, 0, (ByteArray.mk #[120]), 0⟩ : Event)]) fun ap11595 =>
    some (.inl (ap11595, r11583.2.1, r11583.2.2)))
    else some (.inr (s11562.1, r11583.2.1, r11583.2.2))) gxFuel (out11118.1, r11171.2.1, r11171.2.2)) fun out11569 =>
  some (out11569.1, out11569.2.1, out11569.2.2))
  else some (out11118.1, r11171.2.1, r11171.2.2)) fun o11508 =>
  some (o11508.1, o11508.2.1, o11508.2.2))) fun o11389 =>
  some (o11389.1, o11389.2.1, o11389.2.2)
def M.s_DrawMergeRecords (x10300 : List Int) : Option ((List Event) × (List Event)) :=
  Option.bind (M.s_l1Cur_record22 (⟨x10300, 0, 0⟩ : l1Cur)) fun r11615 =>
  Option.bind (M.s_l1Cur_record22 (⟨x10300, r11615.2.1, r11615.2.2⟩ : l1Cur)) fun r11624 =>
  some (r11615.1, r11624.1)
def M.l_rEvents (x11666 : List Event) (x11671 : List Event) : Option (Bool) :=
  bif (x11666.length : Int) != (x11671.length : Int) then some false
  else (Option.bind (whileM (σ := Int) (ρ := (Unit) ⊕ (Bool)) (fun s11689 =>
    bif decide (s11689 < (x11666.length : Int)) then (Option.bind (gxIdx x11666 s11689) fun y11701 =>
    Option.bind (gxIdx x11671 s11689) fun y11702 =>
    bif !((y11701.Tick == y11702.Tick) && ((y11701.Guest == y11702.Guest) && ((y11701.Kind.toList == y11702.Kind.toList) && ((y11701.Value == y11702.Value) && true)))) then some (.inr (.inr false))
    else some (.inl (w64 (s11689 + 1))))
    else some (.inr (.inl ()))) gxFuel 0) fun out11696 => Sum.elim (fun (o11699 : Unit) =>
  some true) (fun r => some r) out11696)
def M.s_DrawAddEvent (x11741 : List Int) : Option ((List Event) × Event) :=
  Option.bind (M.s_l1Cur_record22 (⟨x11741, 0, 0⟩ : l1Cur)) fun r11760 =>
  Option.bind (M.s_l1Cur_among (⟨x11741, r11760.2.1, r11760.2.2⟩ : l1Cur) [0, 3, 4, 10, 100000]) fun r11776 =>
  Option.bind (M.s_l1Cur_event (⟨x11741, r11776.2.1, r11776.2.2⟩ : l1Cur) r11776.1) fun r11780 =>
  some (r11760.1, r11780.1)
def M.s_DrawEventsWithin (x11971 : List Int) : Option ((List Event) × Int × Int) :=
  Option.bind (M.s_l1Cur_record22 (⟨x11971, 0, 0⟩ : l1Cur)) fun r11986 =>
  Option.bind (M.s_l1Cur_among (⟨x11971, r11986.2.1, r11986.2.2⟩ : l1Cur) [0, 3, 10, 99990, (-1)]) fun r12002 =>
  Option.bind (M.s_l1Cur_among (⟨x11971, r12002.2.1, r12002.2.2⟩ : l1Cur) [0, 1, 10, 100, (-1), 100000]) fun r12013 =>
  some (r11986.1, r12002.1, w64 (r12002.1 + r12013.1))
def M.s_DrawFirstWith (x12062 : List Int) : Option ((List Event) × ByteArray × Int) :=
  Option.bind (M.s_l1Cur_record22 (⟨x12062, 0, 0⟩ : l1Cur)) fun r12077 =>
  Option.bind (M.s_l1Cur_of (⟨x12062, r12077.2.1, r12077.2.2⟩ : l1Cur) [(ByteArray.mk #[116, 114, 97, 112]), (ByteArray.mk #[104, 97, 108, 116]), (ByteArray.mk #[105, 114, 113]), (ByteArray.mk #[110, 111, 110, 101]), (ByteArray.mk #[])]) fun r12093 =>
  Option.bind (M.s_l1Cur_pick (⟨x12062, r12093.2.1, r12093.2.2⟩ : l1Cur) 24) fun r12104 =>
  Option.bind (gxSlice [0, 1, 8, 65535, (-1), 65536] 0 (w64 (4 + (w64 (r12104.1.tdiv 11))))) fun ys12108 =>
  Option.bind (M.s_l1Cur_among (⟨x12062, r12104.2.1, r12104.2.2⟩ : l1Cur) ys12108) fun r12110 =>
  some (r12077.1, r12093.1, r12110.1)
def M.s_DrawIsRecord (x12161 : List Int) : Option ((List Event)) :=
  Option.bind (M.s_l1Cur_record22 (⟨x12161, 0, 0⟩ : l1Cur)) fun r12176 =>
  some r12176.1
def M.s_DrawLongestGap (x12151 : List Int) : Option ((List Event)) :=
  Option.bind (M.s_DrawIsRecord x12151) fun r12185 =>
  some r12185
def M.l_FnRecords (x10285 : List Int) : Option (Bool) :=
  Option.bind (M.l_rBig x10285) fun r10295 =>
  bif r10295 then some true
  else (Option.bind (M.s_DrawMergeRecords x10285) fun r11633 =>
  Option.bind (M.i_MergeRecords r11633.1 r11633.2) fun r11647 =>
  Option.bind (M.s_MergeRecords r11633.1 r11633.2) fun r11656 =>
  Option.bind (α := Bool) (bif !(r11647.2 == r11656.2) then some true
  else (Option.bind (M.l_rEvents r11647.1 r11656.1) fun r11725 =>
  bif !r11725 then some true
  else (bif r11647.2 then (bif (r11647.1.length : Int) != (w64 ((r11633.1.length : Int) + (r11633.2.length : Int))) then some true
  else (Option.bind (M.i_IsRecord r11647.1) fun r11732 =>
  some (!r11732)))
  else some false))) fun o11721 =>
  bif o11721 then some false
  else (Option.bind (M.s_DrawAddEvent x10285) fun r11786 =>
  Option.bind (M.i_AddEvent r11786.1 r11786.2) fun r11801 =>
  Option.bind (M.s_AddEvent r11786.1 r11786.2) fun r11810 =>
  Option.bind (α := Bool) (bif !(r11801.2 == r11810.2) then some true
  else (Option.bind (M.l_rEvents r11801.1 r11810.1) fun r11828 =>
  some (!r11828))) fun o11824 =>
  bif o11824 then some false
  else (Option.bind (α := (Unit) ⊕ (Bool)) (bif r11801.2 then (Option.bind (M.i_EventsWithin r11801.1 r11786.2.Tick r11786.2.Tick) fun r11905 =>
  Option.bind (α := Bool) (bif !r11905.2 then some true
  else (bif (r11905.1.length : Int) == 0 then some true
  else (Option.bind (gxIdx r11905.1 (w64 ((r11905.1.length : Int) - 1))) fun y11932 =>
  some (!((y11932.Tick == r11786.2.Tick) && ((y11932.Guest == r11786.2.Guest) && ((y11932.Kind.toList == r11786.2.Kind.toList) && ((y11932.Value == r11786.2.Value) && true)))))))) fun o11923 =>
  bif o11923 then some (.inr false)
  else (Option.bind (M.i_EventsWithin r11801.1 0 100000) fun r11940 =>
  Option.bind (α := Bool) (bif !r11940.2 then some true
  else (Option.bind (M.l_rEvents r11940.1 r11801.1) fun r11958 =>
  some (!r11958))) fun o11954 =>
  bif o11954 then some (.inr false)
  else some (.inl ())))
  else some (.inl ())) fun out11903 => Sum.elim (fun (o11900 : Unit) =>
  Option.bind (M.s_DrawEventsWithin x10285) fun r12017 =>
  Option.bind (M.i_EventsWithin r12017.1 r12017.2.1 r12017.2.2) fun r12026 =>
  Option.bind (M.s_EventsWithin r12017.1 r12017.2.1 r12017.2.2) fun r12035 =>
  Option.bind (α := Bool) (bif !(r12026.2 == r12035.2) then some true
  else (Option.bind (M.l_rEvents r12026.1 r12035.1) fun r12053 =>
  some (!r12053))) fun o12049 =>
  bif o12049 then some false
  else (Option.bind (M.s_DrawFirstWith x10285) fun r12114 =>
  Option.bind (M.i_FirstWith r12114.1 r12114.2.1 r12114.2.2) fun r12123 =>
  Option.bind (M.s_FirstWith r12114.1 r12114.2.1 r12114.2.2) fun r12127 =>
  Option.bind (α := Bool) (bif r12123.1 != r12127.1 then some true
  else (bif !(r12123.2 == r12127.2) then some true
  else (bif r12123.2 then (Option.bind (gxIdx r12114.1 r12123.1) fun y12143 =>
  bif !(y12143.Kind.toList == r12114.2.1.toList) then some true
  else (Option.bind (gxIdx r12114.1 r12123.1) fun y12145 =>
  some (decide (y12145.Value < r12114.2.2))))
  else some false))) fun o12137 =>
  bif o12137 then some false
  else (Option.bind (M.s_DrawLongestGap x10285) fun r12194 =>
  Option.bind (M.i_LongestGap r12194) fun r12203 =>
  Option.bind (M.s_LongestGap r12194) fun r12207 =>
  Option.bind (α := Bool) (bif r12203.1 == r12207.1 then (bif r12203.2.1 == r12207.2.1 then some (r12203.2.2 == r12207.2.2)
  else some false)
  else some false) fun o12213 =>
  some o12213))) (fun r => some r) out11903)))
end Go.Proofs.Ytfcebglkdfadcaa
