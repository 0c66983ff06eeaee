/- The models of the functions, printed by program: what each computes, in plain Lean. -/
import Derived.Test.YtfcebglkdfadcaaGxJ
set_option linter.unusedVariables false
set_option maxRecDepth 100000
set_option maxHeartbeats 4000000
namespace Go.Proofs.Ytfcebglkdfadcaa
open Go.Gx
structure Event where
  Tick : Int
  Guest : Int
  Kind : ByteArray
  Value : Int
def encEvent : Enc Event := ⟨fun x => [.int .i64 x.Tick, .int .i64 x.Guest, .string x.Kind, .int .i64 x.Value], 4, fun _ => rfl, by simp [Value.oneCell']⟩
structure l1Cur where
  code : List Int
  at_ : Int
  seed : Int
def M.l_szEvent (x6 : Event) (x7 : Int) : Option (Int) :=
  bif decide ((w64 (x7 - (x6.Kind.size : Int))) < 0) then some (-1)
  else some (w64 (x7 - (x6.Kind.size : Int)))
def M.l_toEvent (x18 : Event) : Option (Event) :=
  some x18
def M.s_l1In (x56 : Int) (x57 : Int) (x58 : Int) : Option (Bool) :=
  Option.bind (α := Bool) (bif decide (x56 ≥ x57) then some (decide (x56 ≤ x58))
  else some false) fun o60 =>
  some o60
def M.s_l11Tick (x55 : Int) : Option (Bool) :=
  Option.bind (M.s_l1In x55 0 100000) fun r68 =>
  some r68
def M.s_l22Guest (x77 : Int) : Option (Bool) :=
  Option.bind (M.s_l1In x77 0 4) fun r78 =>
  some r78
def M.s_l22Kind (x87 : ByteArray) : Option (Bool) :=
  Option.bind (whileM (σ := Int) (ρ := (Unit) ⊕ (Bool)) (fun s118 =>
    bif decide (s118 < (x87.size : Int)) then (Option.bind (α := Bool) (Option.bind (gxSIdx x87 s118) fun q136 =>
    bif decide (q136 < 97) then some true
    else (Option.bind (gxSIdx x87 s118) fun q138 =>
    some (decide (q138 > 122)))) fun o133 =>
    bif o133 then some (.inr (.inr false))
    else some (.inl (w64 (s118 + 1))))
    else some (.inr (.inl ()))) gxFuel 0) fun out125 => Sum.elim (fun (o128 : Unit) =>
  Option.bind (M.s_l1In (x87.size : Int) 1 8) fun r148 =>
  some r148) (fun r => some r) out125
def M.s_l22One (x50 : Event) : Option (Bool) :=
  Option.bind (α := Bool) (Option.bind (M.s_l11Tick x50.Tick) fun r164 =>
  bif r164 then (Option.bind (M.s_l22Guest x50.Guest) fun r169 =>
  bif r169 then (Option.bind (M.s_l22Kind x50.Kind) fun r174 =>
  bif r174 then (Option.bind (M.s_l1In x50.Value 0 65535) fun r179 =>
  some r179)
  else some false)
  else some false)
  else some false) fun o161 =>
  some o161
def M.s_IsEvent (x45 : Event) : Option (Bool) :=
  Option.bind (M.s_l22One x45) fun r187 =>
  some r187
def M.i_inside (x205 : Int) (x206 : Int) (x207 : Int) : Option (Bool) :=
  Option.bind (α := Bool) (bif decide (x205 ≥ x206) then some (decide (x205 ≤ x207))
  else some false) fun o209 =>
  some o209
def M.i_isTick (x204 : Int) : Option (Bool) :=
  Option.bind (M.i_inside x204 0 100000) fun r217 =>
  some r217
def M.i_isParty (x226 : Int) : Option (Bool) :=
  Option.bind (M.i_inside x226 0 4) fun r227 =>
  some r227
def M.i_isWord (x237 : ByteArray) : Option (Bool) :=
  Option.bind (whileM (σ := Int) (ρ := (Unit) ⊕ (Bool)) (fun s268 =>
    bif decide (s268 < (x237.size : Int)) then (Option.bind (α := Bool) (Option.bind (gxSIdx x237 s268) fun q286 =>
    bif decide (q286 < 97) then some true
    else (Option.bind (gxSIdx x237 s268) fun q288 =>
    some (decide (q288 > 122)))) fun o283 =>
    bif o283 then some (.inr (.inr false))
    else some (.inl (w64 (s268 + 1))))
    else some (.inr (.inl ()))) gxFuel 0) fun out275 => Sum.elim (fun (o278 : Unit) =>
  Option.bind (M.i_inside (x237.size : Int) 1 10) fun r298 =>
  some r298) (fun r => some r) out275
def M.i_isEventKind (x236 : ByteArray) : Option (Bool) :=
  Option.bind (α := Bool) (Option.bind (M.i_isWord x236) fun r310 =>
  bif r310 then some (decide ((x236.size : Int) ≤ 8))
  else some false) fun o307 =>
  some o307
def M.i_isWord16 (x324 : Int) : Option (Bool) :=
  Option.bind (M.i_inside x324 0 65535) fun r325 =>
  some r325
def M.i_IsEvent (x199 : Event) : Option (Bool) :=
  Option.bind (α := Bool) (Option.bind (M.i_isTick x199.Tick) fun r336 =>
  bif r336 then (Option.bind (M.i_isParty x199.Guest) fun r341 =>
  bif r341 then (Option.bind (M.i_isEventKind x199.Kind) fun r346 =>
  bif r346 then (Option.bind (M.i_isWord16 x199.Value) fun r351 =>
  some r351)
  else some false)
  else some false)
  else some false) fun o333 =>
  some o333
def M.l_FnExactIsEvent (x1 : Event) : Option (Bool) :=
  Option.bind (M.l_szEvent x1 1048576) fun r13 =>
  bif decide (r13 < 0) then some true
  else (Option.bind (M.l_toEvent x1) fun r41 =>
  Option.bind (M.s_IsEvent r41) fun r191 =>
  Option.bind (M.l_toEvent x1) fun r195 =>
  Option.bind (M.i_IsEvent r195) fun r359 =>
  bif !(r359 == r191) then some false
  else some true)
def M.l_szEventS (x369 : List Event) (x374 : Int) : Option (Int) :=
  bif decide ((w64 (x374 - (x369.length : Int))) < 0) then some (-1)
  else (Option.bind (whileM (σ := Int × Int) (ρ := (Int) ⊕ (Int)) (fun s390 =>
    bif decide (s390.2 < (x369.length : Int)) then (Option.bind (gxIdx x369 s390.2) fun y402 =>
    Option.bind (M.l_szEvent y402 s390.1) fun r403 =>
    bif decide (r403 < 0) then some (.inr (.inr (-1)))
    else some (.inl (r403, w64 (s390.2 + 1))))
    else some (.inr (.inl s390.1))) gxFuel (w64 (x374 - (x369.length : Int)), 0)) fun out397 => Sum.elim (fun (o400 : Int) =>
  some o400) (fun r => some r) out397)
def M.l_toEventS (x417 : List Event) : Option ((List Event)) :=
  Option.bind (gxMake 40 (x417.length : Int) ((⟨0, 0, ByteArray.empty, 0⟩ : Event) : Event)) fun mk427 =>
  Option.bind (whileM (σ := Int × List Event) (ρ := List Event) (fun s459 =>
    bif decide (s459.1 < (x417.length : Int)) then (Option.bind (gxIdx x417 s459.1) fun y475 =>
    Option.bind (M.l_toEvent y475) fun r476 =>
    Option.bind (gxIdx s459.2 s459.1) fun y480 =>
    some (.inl (w64 (s459.1 + 1), (s459.2.set s459.1.toNat r476))))
    else some (.inr s459.2)) gxFuel (0, mk427)) fun out466 =>
  some out466
def M.s_l22Good (x503 : List Event) : Option (Bool) :=
  Option.bind (whileM (σ := Int) (ρ := (Unit) ⊕ (Bool)) (fun s586 =>
    bif decide (s586 < (x503.length : Int)) then (Option.bind (α := Bool) (Option.bind (gxIdx x503 s586) fun y616 =>
    Option.bind (M.s_l22One y616) fun r617 =>
    bif !r617 then some true
    else (bif decide (s586 > 0) then (Option.bind (gxIdx x503 (w64 (s586 - 1))) fun y625 =>
    Option.bind (gxIdx x503 s586) fun y626 =>
    some (decide (y625.Tick > y626.Tick)))
    else some false)) fun o613 =>
    bif o613 then some (.inr (.inr false))
    else some (.inl (w64 (s586 + 1))))
    else some (.inr (.inl ()))) gxFuel 0) fun out593 => Sum.elim (fun (o596 : Unit) =>
  some (decide ((x503.length : Int) ≤ 30))) (fun r => some r) out593
def M.s_IsRecord (x498 : List Event) : Option (Bool) :=
  Option.bind (M.s_l22Good x498) fun r640 =>
  some r640
def M.i_IsRecord (x657 : List Event) : Option (Bool) :=
  Option.bind (whileM (σ := Int) (ρ := (Unit) ⊕ (Bool)) (fun s746 =>
    bif decide (s746 < (x657.length : Int)) then (Option.bind (gxIdx x657 s746) fun y758 =>
    Option.bind (α := Bool) (Option.bind (M.i_IsEvent y758) fun r781 =>
    bif !r781 then some true
    else (bif decide (s746 > 0) then (Option.bind (gxIdx x657 (w64 (s746 - 1))) fun y789 =>
    some (decide (y789.Tick > y758.Tick)))
    else some false)) fun o778 =>
    bif o778 then some (.inr (.inr false))
    else some (.inl (w64 (s746 + 1))))
    else some (.inr (.inl ()))) gxFuel 0) fun out753 => Sum.elim (fun (o756 : Unit) =>
  some (decide ((x657.length : Int) ≤ 30))) (fun r => some r) out753
def M.l_eqEvent (x831 : Event) (x832 : Event) : Option (Bool) :=
  bif x831.Tick != x832.Tick then some false
  else (bif x831.Guest != x832.Guest then some false
  else (bif !(x831.Kind.toList == x832.Kind.toList) then some false
  else (bif x831.Value != x832.Value then some false
  else some true)))
def M.l_eqEventS (x817 : List Event) (x822 : List Event) : Option (Bool) :=
  bif (x817.length : Int) != (x822.length : Int) then some false
  else (Option.bind (whileM (σ := Int) (ρ := (Unit) ⊕ (Bool)) (fun s862 =>
    bif decide (s862 < (x817.length : Int)) then (Option.bind (gxIdx x817 s862) fun y874 =>
    Option.bind (gxIdx x822 s862) fun y875 =>
    Option.bind (M.l_eqEvent y874 y875) fun r876 =>
    bif !r876 then some (.inr (.inr false))
    else some (.inl (w64 (s862 + 1))))
    else some (.inr (.inl ()))) gxFuel 0) fun out869 => Sum.elim (fun (o872 : Unit) =>
  some true) (fun r => some r) out869)
def M.l_FnExactIsRecord (x364 : List Event) : Option (Bool) :=
  Option.bind (M.l_szEventS x364 1048576) fun r412 =>
  bif decide (r412 < 0) then some true
  else (Option.bind (M.l_toEventS x364) fun r489 =>
  Option.bind (M.s_IsRecord r489) fun r644 =>
  Option.bind (M.l_toEventS x364) fun r648 =>
  Option.bind (M.i_IsRecord r648) fun r803 =>
  bif !(r803 == r644) then some false
  else (Option.bind (M.l_toEventS x364) fun r808 =>
  Option.bind (M.l_eqEventS r648 r808) fun r887 =>
  bif !r887 then some false
  else some true))
def M.s_LongestGap (x911 : List Event) : Option (Int × Int × Bool) :=
  Option.bind (α := Bool) (Option.bind (M.s_l22Good x911) fun r924 =>
  bif !r924 then some true
  else some (decide ((x911.length : Int) < 2))) fun o921 =>
  bif o921 then some (0, 0, false)
  else (Option.bind (whileM (σ := Int × Int × Int) (ρ := Int × Int) (fun s962 =>
    bif decide (s962.2.2 < (x911.length : Int)) then (Option.bind (gxIdx x911 s962.2.2) fun y974 =>
    Option.bind (gxIdx x911 (w64 (s962.2.2 - 1))) fun y975 =>
    Option.bind (α := Int × Int) (bif decide ((w64 (y974.Tick - y975.Tick)) > s962.1) then some (w64 (y974.Tick - y975.Tick), s962.2.2)
    else some (s962.1, s962.2.1)) fun o979 =>
    some (.inl (o979.1, o979.2, w64 (s962.2.2 + 1))))
    else some (.inr (s962.1, s962.2.1))) gxFuel ((-1), 0, 1)) fun out969 =>
  some (out969.1, out969.2, true))
def M.i_LongestGap (x1004 : List Event) : Option (Int × Int × Bool) :=
  Option.bind (α := Bool) (Option.bind (M.i_IsRecord x1004) fun r1017 =>
  bif !r1017 then some true
  else some (decide ((x1004.length : Int) < 2))) fun o1014 =>
  bif o1014 then some (0, 0, false)
  else (Option.bind (whileM (σ := Int × Int × Int) (ρ := Int × Int) (fun s1055 =>
    bif decide (s1055.2.2 < (x1004.length : Int)) then (Option.bind (gxIdx x1004 s1055.2.2) fun y1067 =>
    Option.bind (gxIdx x1004 (w64 (s1055.2.2 - 1))) fun y1068 =>
    Option.bind (α := Int × Int) (bif decide ((w64 (y1067.Tick - y1068.Tick)) > s1055.1) then some (w64 (y1067.Tick - y1068.Tick), s1055.2.2)
    else some (s1055.1, s1055.2.1)) fun o1072 =>
    some (.inl (o1072.1, o1072.2, w64 (s1055.2.2 + 1))))
    else some (.inr (s1055.1, s1055.2.1))) gxFuel ((-1), 0, 1)) fun out1062 =>
  some (out1062.1, out1062.2, true))
def M.l_FnExactLongestGap (x892 : List Event) : Option (Bool) :=
  Option.bind (M.l_szEventS x892 1048576) fun r897 =>
  bif decide (r897 < 0) then some true
  else (Option.bind (M.l_toEventS x892) fun r902 =>
  Option.bind (M.s_LongestGap r902) fun r991 =>
  Option.bind (M.l_toEventS x892) fun r995 =>
  Option.bind (M.i_LongestGap r995) fun r1084 =>
  Option.bind (α := Bool) (bif r1084.1 != r991.1 then some true
  else (bif r1084.2.1 != r991.2.1 then some true
  else some (!(r1084.2.2 == r991.2.2)))) fun o1090 =>
  bif o1090 then some false
  else (Option.bind (M.l_toEventS x892) fun r1100 =>
  Option.bind (M.l_eqEventS r995 r1100) fun r1109 =>
  bif !r1109 then some false
  else some true))
def M.s_FirstWith (x1136 : List Event) (x1141 : ByteArray) (x1142 : Int) : Option (Int × Bool) :=
  Option.bind (α := Bool) (Option.bind (M.s_l22Good x1136) fun r1155 =>
  bif !r1155 then some true
  else (Option.bind (M.s_l1In x1142 0 65535) fun r1160 =>
  some (!r1160))) fun o1152 =>
  bif o1152 then some (0, false)
  else (Option.bind (whileM (σ := Int) (ρ := (Unit) ⊕ (Int × Bool)) (fun s1199 =>
    bif decide (s1199 < (x1136.length : Int)) then (Option.bind (α := Bool) (Option.bind (gxIdx x1136 s1199) fun y1217 =>
    bif (y1217.Kind.toList == x1141.toList) then (Option.bind (gxIdx x1136 s1199) fun y1219 =>
    some (decide (y1219.Value ≥ x1142)))
    else some false) fun o1214 =>
    bif o1214 then some (.inr (.inr (s1199, true)))
    else some (.inl (w64 (s1199 + 1))))
    else some (.inr (.inl ()))) gxFuel 0) fun out1206 => Sum.elim (fun (o1209 : Unit) =>
  some (0, false)) (fun r => some r) out1206)
def M.i_FirstWith_1 (x1298 : Event) (x1299 : ByteArray) (x1303 : Int) : Option (Bool) :=
  Option.bind (α := Bool) (bif (x1298.Kind.toList == x1299.toList) then some (decide (x1298.Value ≥ x1303))
  else some false) fun o1312 =>
  some o1312
def M.slices_IndexFunc_59__i_FirstWith_1 (x1283 : List Event) (x1288 : ByteArray) (x1292 : Int) : Option (Int) :=
  Option.bind (whileM (σ := Int) (ρ := (Unit) ⊕ (Int)) (fun s1332 =>
    bif decide (s1332 < (x1283.length : Int)) then (Option.bind (gxIdx x1283 s1332) fun y1344 =>
    Option.bind (M.i_FirstWith_1 y1344 x1288 x1292) fun r1345 =>
    bif r1345 then some (.inr (.inr s1332))
    else some (.inl (w64 (s1332 + 1))))
    else some (.inr (.inl ()))) gxFuel 0) fun out1339 => Sum.elim (fun (o1342 : Unit) =>
  some (-1)) (fun r => some r) out1339
def M.i_FirstWith (x1242 : List Event) (x1247 : ByteArray) (x1248 : Int) : Option (Int × Bool) :=
  Option.bind (α := Bool) (Option.bind (M.i_IsRecord x1242) fun r1269 =>
  bif !r1269 then some true
  else (Option.bind (M.i_isWord16 x1248) fun r1274 =>
  some (!r1274))) fun o1266 =>
  bif o1266 then some (0, false)
  else (Option.bind (M.slices_IndexFunc_59__i_FirstWith_1 x1242 x1247 x1248) fun r1354 =>
  bif decide (r1354 < 0) then some (0, false)
  else some (r1354, true))
def M.l_FnExactFirstWith (x1114 : List Event) (x1119 : ByteArray) (x1120 : Int) : Option (Bool) :=
  bif decide ((x1119.size : Int) > 1048576) then some true
  else (Option.bind (M.l_szEventS x1114 1048576) fun r1122 =>
  bif decide (r1122 < 0) then some true
  else (Option.bind (M.l_toEventS x1114) fun r1127 =>
  Option.bind (M.s_FirstWith r1127 x1119 x1120) fun r1229 =>
  Option.bind (M.l_toEventS x1114) fun r1233 =>
  Option.bind (M.i_FirstWith r1233 x1119 x1120) fun r1359 =>
  Option.bind (α := Bool) (bif r1359.1 != r1229.1 then some true
  else some (!(r1359.2 == r1229.2))) fun o1364 =>
  bif o1364 then some false
  else (Option.bind (M.l_toEventS x1114) fun r1373 =>
  Option.bind (M.l_eqEventS r1233 r1373) fun r1382 =>
  bif !r1382 then some false
  else some true)))
end Go.Proofs.Ytfcebglkdfadcaa
