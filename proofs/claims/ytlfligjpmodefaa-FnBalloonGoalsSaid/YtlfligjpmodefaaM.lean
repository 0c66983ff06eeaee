/- The models of the functions, printed by program: what each computes, in plain Lean. -/
import Derived.Test.YtlfligjpmodefaaGxT
set_option linter.unusedVariables false
set_option maxRecDepth 100000
set_option maxHeartbeats 4000000
namespace Go.Proofs.Ytlfligjpmodefaa
open Go.Gx
structure Balloon where
  Guest : Int
  Goal : Int
  Gave : List Int
def deepBalloon : Deep Balloon := ⟨⟨fun z => [.int .i64 z.1.Guest, .int .i64 z.1.Goal, .slice ((z.2 0).1) z.1.Gave.length ((z.2 0).2)], 3, fun _ => rfl, by simp [Value.oneCell']⟩, fun z => [⟨Int, Gx.encI, z.1.Gave, (z.2 0).1, (z.2 0).2⟩]⟩
structure l1Cur where
  code : List Int
  at_ : Int
  seed : Int
def M.l_szIntS (x38 : List Int) (x43 : Int) : Option (Int) :=
  bif decide ((w64 (x43 - (x38.length : Int))) < 0) then some (-1)
  else some (w64 (x43 - (x38.length : Int)))
def M.l_szBalloon (x28 : Balloon) (x33 : Int) : Option (Int) :=
  Option.bind (M.l_szIntS x28.Gave x33) fun r45 =>
  bif decide (r45 < 0) then some (-1)
  else some r45
def M.l_szBalloonS (x12 : List Balloon) (x17 : Int) : Option (Int) :=
  bif decide ((w64 (x17 - (x12.length : Int))) < 0) then some (-1)
  else (Option.bind (whileM (σ := Int × Int) (ρ := (Int) ⊕ (Int)) (fun s69 =>
    bif decide (s69.2 < (x12.length : Int)) then (Option.bind (gxIdx x12 s69.2) fun y81 =>
    Option.bind (M.l_szBalloon y81 s69.1) fun r89 =>
    bif decide (r89 < 0) then some (.inr (.inr (-1)))
    else some (.inl (r89, w64 (s69.2 + 1))))
    else some (.inr (.inl s69.1))) gxFuel (w64 (x17 - (x12.length : Int)), 0)) fun out76 => Sum.elim (fun (o79 : Int) =>
  some o79) (fun r => some r) out76)
def M.l_toIntS (x103 : List Int) : Option ((List Int)) :=
  Option.bind (gxMake 8 (x103.length : Int) (0 : Int)) fun mk113 =>
  Option.bind (whileM (σ := Int × List Int) (ρ := List Int) (fun s137 =>
    bif decide (s137.1 < (x103.length : Int)) then (Option.bind (gxIdx x103 s137.1) fun y153 =>
    Option.bind (gxIdx s137.2 s137.1) fun y154 =>
    some (.inl (w64 (s137.1 + 1), (s137.2.set s137.1.toNat y153))))
    else some (.inr s137.2)) gxFuel (0, mk113)) fun out144 =>
  some out144
def M.l_toBalloon (x203 : Balloon) : Option (Balloon) :=
  Option.bind (M.l_toIntS x203.Gave) fun r230 =>
  some (⟨x203.Guest, x203.Goal, r230⟩ : Balloon)
def M.l_toBalloonS (x172 : List Balloon) : Option ((List Balloon)) :=
  Option.bind (gxMake 40 (x172.length : Int) ((⟨0, 0, []⟩ : Balloon) : Balloon)) fun mk184 =>
  Option.bind (whileM (σ := Int × List Balloon) (ρ := List Balloon) (fun s319 =>
    bif decide (s319.1 < (x172.length : Int)) then (Option.bind (gxIdx x172 s319.1) fun y337 =>
    Option.bind (M.l_toBalloon y337) fun r345 =>
    Option.bind (gxIdx s319.2 s319.1) fun y354 =>
    some (.inl (w64 (s319.1 + 1), (s319.2.set s319.1.toNat r345))))
    else some (.inr s319.2)) gxFuel (0, mk184)) fun out326 =>
  some out326
def M.s_l1In (x418 : Int) (x419 : Int) (x420 : Int) : Option (Bool) :=
  Option.bind (α := Bool) (bif decide (x418 ≥ x419) then some (decide (x418 ≤ x420))
  else some false) fun o422 =>
  some o422
def M.s_l2Good (x411 : List Int) : Option (Bool) :=
  Option.bind (whileM (σ := Int) (ρ := (Unit) ⊕ (Bool)) (fun s442 =>
    bif decide (s442 < (x411.length : Int)) then (Option.bind (gxIdx x411 s442) fun y454 =>
    Option.bind (M.s_l1In y454 0 4) fun r455 =>
    bif !r455 then some (.inr (.inr false))
    else some (.inl (w64 (s442 + 1))))
    else some (.inr (.inl ()))) gxFuel 0) fun out449 => Sum.elim (fun (o452 : Unit) =>
  Option.bind (M.s_l1In (x411.length : Int) 1 16) fun r464 =>
  some r464) (fun r => some r) out449
def M.s_l1Rising (x518 : List Int) (x523 : Int) (x524 : Int) : Option (Bool) :=
  Option.bind (whileM (σ := Int) (ρ := (Unit) ⊕ (Bool)) (fun s603 =>
    bif decide (s603 < (x518.length : Int)) then (Option.bind (α := Bool) (Option.bind (gxIdx x518 s603) fun y633 =>
    Option.bind (M.s_l1In y633 x523 x524) fun r634 =>
    bif !r634 then some true
    else (bif decide (s603 > 0) then (Option.bind (gxIdx x518 (w64 (s603 - 1))) fun y642 =>
    Option.bind (gxIdx x518 s603) fun y643 =>
    some (decide (y642 ≥ y643)))
    else some false)) fun o630 =>
    bif o630 then some (.inr (.inr false))
    else some (.inl (w64 (s603 + 1))))
    else some (.inr (.inl ()))) gxFuel 0) fun out610 => Sum.elim (fun (o613 : Unit) =>
  some true) (fun r => some r) out610
def M.s_l1Has (x716 : List Int) (x721 : Int) : Option (Bool) :=
  Option.bind (whileM (σ := Int) (ρ := (Unit) ⊕ (Bool)) (fun s728 =>
    bif decide (s728 < (x716.length : Int)) then (Option.bind (gxIdx x716 s728) fun y740 =>
    bif y740 == x721 then some (.inr (.inr true))
    else some (.inl (w64 (s728 + 1))))
    else some (.inr (.inl ()))) gxFuel 0) fun out735 => Sum.elim (fun (o738 : Unit) =>
  some false) (fun r => some r) out735
def M.s_l18Good (x401 : List Int) (x406 : List Balloon) : Option (Bool) :=
  Option.bind (M.s_l2Good x401) fun r468 =>
  bif !r468 then some false
  else (Option.bind (whileM (σ := List Int × Int) (ρ := (Unit) ⊕ (Bool)) (fun s1034 =>
    bif decide (s1034.2 < (x406.length : Int)) then (Option.bind (gxIdx x406 s1034.2) fun y1051 =>
    Option.bind (α := Bool) (Option.bind (M.s_l1In y1051.Guest 1 4) fun r1103 =>
    bif !r1103 then some true
    else (Option.bind (M.s_l1In y1051.Goal 0 16) fun r1110 =>
    bif !r1110 then some true
    else (bif decide (s1034.2 > 0) then (Option.bind (gxIdx x406 (w64 (s1034.2 - 1))) fun y1118 =>
    bif decide (y1118.Guest ≥ y1051.Guest) then some true
    else (Option.bind (M.s_l1Rising y1051.Gave 0 (w64 ((x401.length : Int) - 1))) fun r1125 =>
    some (!r1125)))
    else (Option.bind (M.s_l1Rising y1051.Gave 0 (w64 ((x401.length : Int) - 1))) fun r1131 =>
    some (!r1131))))) fun o1100 =>
    bif o1100 then some (.inr (.inr false))
    else (Option.bind (whileM (σ := Int) (ρ := (Unit) ⊕ (Bool)) (fun s1192 =>
      bif decide (s1192 < (y1051.Gave.length : Int)) then (Option.bind (α := Bool) (Option.bind (gxIdx y1051.Gave s1192) fun y1215 =>
      Option.bind (gxIdx x401 y1215) fun y1216 =>
      bif y1216 != 0 then some true
      else (Option.bind (gxIdx y1051.Gave s1192) fun y1218 =>
      Option.bind (M.s_l1Has s1034.1 y1218) fun r1219 =>
      some r1219)) fun o1212 =>
      bif o1212 then some (.inr (.inr false))
      else some (.inl (w64 (s1192 + 1))))
      else some (.inr (.inl ()))) gxFuel 0) fun out1199 => Sum.elim (fun (o1202 : Unit) =>
    Option.bind (gxApp 8 s1034.1 y1051.Gave) fun ap1232 =>
    some (.inl (ap1232, w64 (s1034.2 + 1)))) (fun r => some (.inr (.inr r))) out1199))
    else some (.inr (.inl ()))) gxFuel (([] : List Int), 0)) fun out1041 => Sum.elim (fun (o1049 : Unit) =>
  some true) (fun r => some r) out1041)
def M.s_AreBalloons (x391 : List Int) (x396 : List Balloon) : Option (Bool) :=
  Option.bind (M.s_l18Good x391 x396) fun r1244 =>
  some r1244
def M.i_inside (x1286 : Int) (x1287 : Int) (x1288 : Int) : Option (Bool) :=
  Option.bind (α := Bool) (bif decide (x1286 ≥ x1287) then some (decide (x1286 ≤ x1288))
  else some false) fun o1290 =>
  some o1290
def M.i_AreOwners_1 (x1315 : Int) : Option (Bool) :=
  Option.bind (M.i_inside x1315 0 4) fun r1316 =>
  some (!r1316)
def M.slices_IndexFunc_91__i_AreOwners_1 (x1308 : List Int) : Option (Int) :=
  Option.bind (whileM (σ := Int) (ρ := (Unit) ⊕ (Int)) (fun s1332 =>
    bif decide (s1332 < (x1308.length : Int)) then (Option.bind (gxIdx x1308 s1332) fun y1344 =>
    Option.bind (M.i_AreOwners_1 y1344) fun r1345 =>
    bif r1345 then some (.inr (.inr s1332))
    else some (.inl (w64 (s1332 + 1))))
    else some (.inr (.inl ()))) gxFuel 0) fun out1339 => Sum.elim (fun (o1342 : Unit) =>
  some (-1)) (fun r => some r) out1339
def M.slices_ContainsFunc_83__i_AreOwners_1 (x1303 : List Int) : Option (Bool) :=
  Option.bind (M.slices_IndexFunc_91__i_AreOwners_1 x1303) fun r1354 =>
  some (decide (r1354 ≥ 0))
def M.i_AreOwners (x1281 : List Int) : Option (Bool) :=
  Option.bind (α := Bool) (Option.bind (M.i_inside (x1281.length : Int) 1 16) fun r1365 =>
  bif r1365 then (Option.bind (M.slices_ContainsFunc_83__i_AreOwners_1 x1281) fun r1370 =>
  some (!r1370))
  else some false) fun o1362 =>
  some o1362
def M.i_isGuest (x1406 : Int) : Option (Bool) :=
  Option.bind (M.i_inside x1406 1 4) fun r1407 =>
  some r1407
def M.i_isGoal (x1418 : Int) : Option (Bool) :=
  Option.bind (M.i_inside x1418 0 16) fun r1419 =>
  some r1419
def M.i_ascending (x1430 : List Int) (x1435 : Int) (x1436 : Int) : Option (Bool) :=
  Option.bind (whileM (σ := Int) (ρ := (Unit) ⊕ (Bool)) (fun s1485 =>
    bif decide (s1485 < (x1430.length : Int)) then (Option.bind (gxIdx x1430 s1485) fun y1497 =>
    Option.bind (α := Bool) (Option.bind (M.i_inside y1497 x1435 x1436) fun r1508 =>
    bif !r1508 then some true
    else (bif decide (s1485 > 0) then (Option.bind (gxIdx x1430 (w64 (s1485 - 1))) fun y1514 =>
    some (decide (y1514 ≥ y1497)))
    else some false)) fun o1505 =>
    bif o1505 then some (.inr (.inr false))
    else some (.inl (w64 (s1485 + 1))))
    else some (.inr (.inl ()))) gxFuel 0) fun out1492 => Sum.elim (fun (o1495 : Unit) =>
  some true) (fun r => some r) out1492
def M.slices_Index_63 (x1588 : List Int) (x1593 : Int) : Option (Int) :=
  Option.bind (whileM (σ := Int) (ρ := (Unit) ⊕ (Int)) (fun s1600 =>
    bif decide (s1600 < (x1588.length : Int)) then (Option.bind (gxIdx x1588 s1600) fun y1612 =>
    bif x1593 == y1612 then some (.inr (.inr s1600))
    else some (.inl (w64 (s1600 + 1))))
    else some (.inr (.inl ()))) gxFuel 0) fun out1607 => Sum.elim (fun (o1610 : Unit) =>
  some (-1)) (fun r => some r) out1607
def M.slices_Contains_53 (x1582 : List Int) (x1587 : Int) : Option (Bool) :=
  Option.bind (M.slices_Index_63 x1582 x1587) fun r1618 =>
  some (decide (r1618 ≥ 0))
def M.i_AreBalloons (x1271 : List Int) (x1276 : List Balloon) : Option (Bool) :=
  Option.bind (M.i_AreOwners x1271) fun r1378 =>
  bif !r1378 then some false
  else (Option.bind (whileM (σ := List Int × Int) (ρ := (Unit) ⊕ (Bool)) (fun s1989 =>
    bif decide (s1989.2 < (x1276.length : Int)) then (Option.bind (gxIdx x1276 s1989.2) fun y2006 =>
    Option.bind (α := Bool) (Option.bind (M.i_isGuest y2006.Guest) fun r2054 =>
    bif !r2054 then some true
    else (Option.bind (M.i_isGoal y2006.Goal) fun r2061 =>
    bif !r2061 then some true
    else (Option.bind (M.i_ascending y2006.Gave 0 (w64 ((x1271.length : Int) - 1))) fun r2068 =>
    bif !r2068 then some true
    else (bif decide (s1989.2 > 0) then (Option.bind (gxIdx x1276 (w64 (s1989.2 - 1))) fun y2076 =>
    some (decide (y2076.Guest ≥ y2006.Guest)))
    else some false)))) fun o2051 =>
    bif o2051 then some (.inr (.inr false))
    else (Option.bind (whileM (σ := List Int × Int) (ρ := (List Int) ⊕ (Bool)) (fun s2168 =>
      bif decide (s2168.2 < (y2006.Gave.length : Int)) then (Option.bind (gxIdx y2006.Gave s2168.2) fun y2190 =>
      Option.bind (α := Bool) (Option.bind (gxIdx x1271 y2190) fun y2200 =>
      bif y2200 != 0 then some true
      else (Option.bind (M.slices_Contains_53 s2168.1 y2190) fun r2202 =>
      some r2202)) fun o2197 =>
      bif o2197 then some (.inr (.inr false))
      else (Option.bind (gxApp 8 s2168.1 [y2190]) fun ap2218 =>
      some (.inl (ap2218, w64 (s2168.2 + 1)))))
      else some (.inr (.inl s2168.1))) gxFuel (s1989.1, 0)) fun out2175 => Sum.elim (fun (o2183 : List Int) =>
    some (.inl (o2183, w64 (s1989.2 + 1)))) (fun r => some (.inr (.inr r))) out2175))
    else some (.inr (.inl ()))) gxFuel (([] : List Int), 0)) fun out1996 => Sum.elim (fun (o2004 : Unit) =>
  some true) (fun r => some r) out1996)
def M.l_eqIntS (x2248 : List Int) (x2253 : List Int) : Option (Bool) :=
  bif (x2248.length : Int) != (x2253.length : Int) then some false
  else (Option.bind (whileM (σ := Int) (ρ := (Unit) ⊕ (Bool)) (fun s2271 =>
    bif decide (s2271 < (x2248.length : Int)) then (Option.bind (gxIdx x2248 s2271) fun y2283 =>
    Option.bind (gxIdx x2253 s2271) fun y2284 =>
    bif y2283 != y2284 then some (.inr (.inr false))
    else some (.inl (w64 (s2271 + 1))))
    else some (.inr (.inl ()))) gxFuel 0) fun out2278 => Sum.elim (fun (o2281 : Unit) =>
  some true) (fun r => some r) out2278)
def M.l_eqBalloon (x2335 : Balloon) (x2340 : Balloon) : Option (Bool) :=
  bif x2335.Guest != x2340.Guest then some false
  else (bif x2335.Goal != x2340.Goal then some false
  else (Option.bind (M.l_eqIntS x2335.Gave x2340.Gave) fun r2355 =>
  bif !r2355 then some false
  else some true))
def M.l_eqBalloonS (x2307 : List Balloon) (x2312 : List Balloon) : Option (Bool) :=
  bif (x2307.length : Int) != (x2312.length : Int) then some false
  else (Option.bind (whileM (σ := Int) (ρ := (Unit) ⊕ (Bool)) (fun s2391 =>
    bif decide (s2391 < (x2307.length : Int)) then (Option.bind (gxIdx x2307 s2391) fun y2403 =>
    Option.bind (gxIdx x2312 s2391) fun y2411 =>
    Option.bind (M.l_eqBalloon y2403 y2411) fun r2419 =>
    bif !r2419 then some (.inr (.inr false))
    else some (.inl (w64 (s2391 + 1))))
    else some (.inr (.inl ()))) gxFuel 0) fun out2398 => Sum.elim (fun (o2401 : Unit) =>
  some true) (fun r => some r) out2398)
def M.l_FnExactAreBalloons (x1 : List Int) (x6 : List Balloon) : Option (Bool) :=
  bif decide ((x1.length : Int) > 1048576) then some true
  else (Option.bind (M.l_szBalloonS x6 1048576) fun r98 =>
  bif decide (r98 < 0) then some true
  else (Option.bind (M.l_toIntS x1) fun r163 =>
  Option.bind (M.l_toBalloonS x6) fun r381 =>
  Option.bind (M.s_AreBalloons r163 r381) fun r1248 =>
  Option.bind (M.l_toIntS x1) fun r1252 =>
  Option.bind (M.l_toBalloonS x6) fun r1261 =>
  Option.bind (M.i_AreBalloons r1252 r1261) fun r2234 =>
  bif !(r2234 == r1248) then some false
  else (Option.bind (M.l_toIntS x1) fun r2239 =>
  Option.bind (M.l_eqIntS r1252 r2239) fun r2292 =>
  bif !r2292 then some false
  else (Option.bind (M.l_toBalloonS x6) fun r2297 =>
  Option.bind (M.l_eqBalloonS r1261 r2297) fun r2430 =>
  bif !r2430 then some false
  else some true))))
def M.s_l1Most (x2502 : Int) (x2503 : Int) : Option (Int) :=
  bif decide (x2502 > x2503) then some x2502
  else some x2503
def M.s_GivenFrames (x2470 : List Int) (x2475 : List Balloon) : Option (Int × Int × Bool) :=
  Option.bind (M.s_l18Good x2470 x2475) fun r2480 =>
  bif !r2480 then some (0, 0, false)
  else (Option.bind (whileM (σ := Int × Int × Int) (ρ := Int × Int) (fun s2534 =>
    bif decide (s2534.2.2 < (x2475.length : Int)) then (Option.bind (gxIdx x2475 s2534.2.2) fun y2546 =>
    Option.bind (gxIdx x2475 s2534.2.2) fun y2554 =>
    Option.bind (gxIdx x2475 s2534.2.2) fun y2558 =>
    Option.bind (M.s_l1Most 0 (w64 (y2554.Goal - (y2558.Gave.length : Int)))) fun r2562 =>
    some (.inl (w64 (s2534.1 + (y2546.Gave.length : Int)), w64 (s2534.2.1 + r2562), w64 (s2534.2.2 + 1))))
    else some (.inr (s2534.1, s2534.2.1))) gxFuel (0, 0, 0)) fun out2541 =>
  some (out2541.1, out2541.2, true))
def M.i_GivenFrames (x2595 : List Int) (x2600 : List Balloon) : Option (Int × Int × Bool) :=
  Option.bind (M.i_AreBalloons x2595 x2600) fun r2605 =>
  bif !r2605 then some (0, 0, false)
  else (Option.bind (whileM (σ := Int × Int × Int) (ρ := Int × Int) (fun s2642 =>
    bif decide (s2642.2.2 < (x2600.length : Int)) then (Option.bind (gxIdx x2600 s2642.2.2) fun y2654 =>
    some (.inl (w64 (s2642.1 + (y2654.Gave.length : Int)), w64 (s2642.2.1 + (gxMax (w64 (y2654.Goal - (y2654.Gave.length : Int))) 0)), w64 (s2642.2.2 + 1))))
    else some (.inr (s2642.1, s2642.2.1))) gxFuel (0, 0, 0)) fun out2649 =>
  some (out2649.1, out2649.2, true))
def M.l_FnExactGivenFrames (x2435 : List Int) (x2440 : List Balloon) : Option (Bool) :=
  bif decide ((x2435.length : Int) > 1048576) then some true
  else (Option.bind (M.l_szBalloonS x2440 1048576) fun r2446 =>
  bif decide (r2446 < 0) then some true
  else (Option.bind (M.l_toIntS x2435) fun r2451 =>
  Option.bind (M.l_toBalloonS x2440) fun r2460 =>
  Option.bind (M.s_GivenFrames r2451 r2460) fun r2572 =>
  Option.bind (M.l_toIntS x2435) fun r2576 =>
  Option.bind (M.l_toBalloonS x2440) fun r2585 =>
  Option.bind (M.i_GivenFrames r2576 r2585) fun r2673 =>
  Option.bind (α := Bool) (bif r2673.1 != r2572.1 then some true
  else (bif r2673.2.1 != r2572.2.1 then some true
  else some (!(r2673.2.2 == r2572.2.2)))) fun o2679 =>
  bif o2679 then some false
  else (Option.bind (M.l_toIntS x2435) fun r2689 =>
  Option.bind (M.l_eqIntS r2576 r2689) fun r2698 =>
  bif !r2698 then some false
  else (Option.bind (M.l_toBalloonS x2440) fun r2703 =>
  Option.bind (M.l_eqBalloonS r2585 r2703) fun r2713 =>
  bif !r2713 then some false
  else some true))))
def M.s_l18Find (x2773 : List Balloon) (x2778 : Int) : Option (Int) :=
  Option.bind (whileM (σ := Int) (ρ := (Unit) ⊕ (Int)) (fun s2799 =>
    bif decide (s2799 < (x2773.length : Int)) then (Option.bind (gxIdx x2773 s2799) fun y2811 =>
    bif y2811.Guest == x2778 then some (.inr (.inr s2799))
    else some (.inl (w64 (s2799 + 1))))
    else some (.inr (.inl ()))) gxFuel 0) fun out2806 => Sum.elim (fun (o2809 : Unit) =>
  some (-1)) (fun r => some r) out2806
def M.s_l1Own (x2919 : List Int) : Option ((List Int)) :=
  Option.bind (gxApp 8 ([] : List Int) x2919) fun ap2936 =>
  some ap2936
def M.s_l18With (x2873 : List Balloon) (x2878 : Int) (x2879 : Int) (x2880 : List Int) : Option ((List Balloon)) :=
  Option.bind (whileM (σ := List Balloon × Int) (ρ := List Balloon) (fun s3275 =>
    bif decide (s3275.2 < (x2873.length : Int)) then (Option.bind (gxIdx x2873 s3275.2) fun y3301 =>
    Option.bind (gxIdx x2873 s3275.2) fun y3309 =>
    Option.bind (gxIdx x2873 s3275.2) fun y3313 =>
    Option.bind (M.s_l1Own y3313.Gave) fun r3317 =>
    Option.bind (α := Int × List Int) (bif s3275.2 == x2878 then (Option.bind (M.s_l1Own x2880) fun r3430 =>
    some (x2879, r3430))
    else some (y3309.Goal, r3317)) fun o3419 =>
    Option.bind (gxApp 40 s3275.1 [(⟨y3301.Guest, o3419.1, o3419.2⟩ : Balloon)]) fun ap3455 =>
    some (.inl (ap3455, w64 (s3275.2 + 1))))
    else some (.inr s3275.1)) gxFuel (([] : List Balloon), 0)) fun out3282 =>
  some out3282
def M.s_SetGoal (x2755 : List Int) (x2760 : List Balloon) (x2765 : Int) (x2766 : Int) : Option ((List Balloon) × Bool) :=
  Option.bind (M.s_l18Find x2760 x2765) fun r2824 =>
  Option.bind (α := Bool) (Option.bind (M.s_l18Good x2755 x2760) fun r2841 =>
  bif !r2841 then some true
  else (bif decide (r2824 < 0) then some true
  else (Option.bind (M.s_l1In x2766 0 16) fun r2847 =>
  some (!r2847)))) fun o2838 =>
  bif o2838 then some (([] : List Balloon), false)
  else (Option.bind (gxIdx x2760 r2824) fun y2865 =>
  Option.bind (M.s_l18With x2760 r2824 x2766 y2865.Gave) fun r3474 =>
  some (r3474, true))
def M.i_balloonOf_1 (x3564 : Balloon) (x3569 : Int) : Option (Bool) :=
  some (x3564.Guest == x3569)
def M.slices_IndexFunc_85__i_balloonOf_1 (x3546 : List Balloon) (x3551 : Int) : Option (Int) :=
  Option.bind (whileM (σ := Int) (ρ := (Unit) ⊕ (Int)) (fun s3596 =>
    bif decide (s3596 < (x3546.length : Int)) then (Option.bind (gxIdx x3546 s3596) fun y3608 =>
    Option.bind (M.i_balloonOf_1 y3608 x3551) fun r3616 =>
    bif r3616 then some (.inr (.inr s3596))
    else some (.inl (w64 (s3596 + 1))))
    else some (.inr (.inl ()))) gxFuel 0) fun out3603 => Sum.elim (fun (o3606 : Unit) =>
  some (-1)) (fun r => some r) out3603
def M.i_balloonOf (x3531 : List Int) (x3536 : List Balloon) (x3541 : Int) : Option (Int × Bool) :=
  Option.bind (M.slices_IndexFunc_85__i_balloonOf_1 x3536 x3541) fun r3625 =>
  Option.bind (α := Int × Bool) (Option.bind (M.i_AreBalloons x3531 x3536) fun r3637 =>
  bif r3637 then some (r3625, decide (r3625 ≥ 0))
  else some (r3625, false)) fun o3634 =>
  some (o3634.1, o3634.2)
def M.i_copyInts (x3705 : List Int) : Option ((List Int)) :=
  Option.bind (gxApp 8 ([] : List Int) x3705) fun ap3722 =>
  some ap3722
def M.i_newBalloons (x3669 : List Balloon) : Option ((List Balloon)) :=
  Option.bind (whileM (σ := List Balloon × Int) (ρ := List Balloon) (fun s3824 =>
    bif decide (s3824.2 < (x3669.length : Int)) then (Option.bind (gxIdx x3669 s3824.2) fun y3848 =>
    Option.bind (M.i_copyInts y3848.Gave) fun r3863 =>
    Option.bind (gxApp 40 s3824.1 [(⟨y3848.Guest, y3848.Goal, r3863⟩ : Balloon)]) fun ap3884 =>
    some (.inl (ap3884, w64 (s3824.2 + 1))))
    else some (.inr s3824.1)) gxFuel (([] : List Balloon), 0)) fun out3831 =>
  some out3831
def M.i_SetGoal (x3513 : List Int) (x3518 : List Balloon) (x3523 : Int) (x3524 : Int) : Option ((List Balloon) × Bool) :=
  Option.bind (M.i_balloonOf x3513 x3518 x3523) fun r3646 =>
  Option.bind (α := Bool) (bif !r3646.2 then some true
  else (Option.bind (M.i_isGoal x3524) fun r3659 =>
  some (!r3659))) fun o3655 =>
  bif o3655 then some (([] : List Balloon), false)
  else (Option.bind (M.i_newBalloons x3518) fun r3903 =>
  Option.bind (gxIdx r3903 r3646.1) fun y3913 =>
  some ((r3903.set r3646.1.toNat (⟨y3913.Guest, x3524, y3913.Gave⟩ : Balloon)), true))
def M.l_markIntS (x3984 : List Int) (x3990 : Int) : Option (Int × (List Int)) :=
  Option.bind (whileM (σ := Int × Int × List Int) (ρ := Int × List Int) (fun s4007 =>
    bif decide (s4007.2.1 < (s4007.2.2.length : Int)) then (Option.bind (gxIdx s4007.2.2 s4007.2.1) fun y4025 =>
    some (.inl (w64 (s4007.1 + 1), w64 (s4007.2.1 + 1), (s4007.2.2.set s4007.2.1.toNat s4007.1))))
    else some (.inr (s4007.1, s4007.2.2))) gxFuel (x3990, 0, x3984)) fun out4014 =>
  some (out4014.1, out4014.2)
def M.l_markBalloonS (x4041 : List Balloon) (x4048 : Int) : Option (Int × (List Balloon)) :=
  Option.bind (whileM (σ := Int × Int × List Balloon) (ρ := Int × List Balloon) (fun s4181 =>
    bif decide (s4181.2.1 < (s4181.2.2.length : Int)) then (Option.bind (gxIdx s4181.2.2 s4181.2.1) fun y4201 =>
    Option.bind (gxIdx (s4181.2.2.set s4181.2.1.toNat (⟨s4181.1, y4201.Goal, y4201.Gave⟩ : Balloon)) s4181.2.1) fun y4215 =>
    Option.bind (gxIdx ((s4181.2.2.set s4181.2.1.toNat (⟨s4181.1, y4201.Goal, y4201.Gave⟩ : Balloon)).set s4181.2.1.toNat (⟨y4215.Guest, w64 (s4181.1 + 1), y4215.Gave⟩ : Balloon)) s4181.2.1) fun y4229 =>
    Option.bind (M.l_markIntS y4229.Gave (w64 ((w64 (s4181.1 + 1)) + 1))) fun r4237 =>
    some (.inl (r4237.1, w64 (s4181.2.1 + 1), (((s4181.2.2.set s4181.2.1.toNat (⟨s4181.1, y4201.Goal, y4201.Gave⟩ : Balloon)).set s4181.2.1.toNat (⟨y4215.Guest, w64 (s4181.1 + 1), y4215.Gave⟩ : Balloon)).set s4181.2.1.toNat (⟨y4229.Guest, y4229.Goal, r4237.2⟩ : Balloon)))))
    else some (.inr (s4181.1, s4181.2.2))) gxFuel (x4048, 0, x4041)) fun out4188 =>
  some (out4188.1, out4188.2)
def M.l_heldIntS (x4328 : List Int) (x4333 : Int) : Option (Int) :=
  Option.bind (whileM (σ := Int × Int) (ρ := (Int) ⊕ (Int)) (fun s4340 =>
    bif decide (s4340.2 < (x4328.length : Int)) then (Option.bind (gxIdx x4328 s4340.2) fun y4352 =>
    bif y4352 != s4340.1 then some (.inr (.inr (-1)))
    else some (.inl (w64 (s4340.1 + 1), w64 (s4340.2 + 1))))
    else some (.inr (.inl s4340.1))) gxFuel (x4333, 0)) fun out4347 => Sum.elim (fun (o4350 : Int) =>
  some o4350) (fun r => some r) out4347
def M.l_heldBalloonS (x4303 : List Balloon) (x4308 : Int) : Option (Int) :=
  Option.bind (whileM (σ := Int × Int) (ρ := (Int) ⊕ (Int)) (fun s4387 =>
    bif decide (s4387.2 < (x4303.length : Int)) then (Option.bind (gxIdx x4303 s4387.2) fun y4399 =>
    bif y4399.Guest != s4387.1 then some (.inr (.inr (-1)))
    else (Option.bind (gxIdx x4303 s4387.2) fun y4408 =>
    bif y4408.Goal != (w64 (s4387.1 + 1)) then some (.inr (.inr (-1)))
    else (Option.bind (gxIdx x4303 s4387.2) fun y4413 =>
    Option.bind (M.l_heldIntS y4413.Gave (w64 ((w64 (s4387.1 + 1)) + 1))) fun r4417 =>
    bif decide (r4417 < 0) then some (.inr (.inr (-1)))
    else some (.inl (r4417, w64 (s4387.2 + 1))))))
    else some (.inr (.inl s4387.1))) gxFuel (x4308, 0)) fun out4394 => Sum.elim (fun (o4397 : Int) =>
  some o4397) (fun r => some r) out4394
def M.l_FnExactSetGoal (x2718 : List Int) (x2723 : List Balloon) (x2728 : Int) (x2729 : Int) : Option (Bool) :=
  bif decide ((x2718.length : Int) > 1048576) then some true
  else (Option.bind (M.l_szBalloonS x2723 1048576) fun r2731 =>
  bif decide (r2731 < 0) then some true
  else (Option.bind (M.l_toIntS x2718) fun r2736 =>
  Option.bind (M.l_toBalloonS x2723) fun r2745 =>
  Option.bind (M.s_SetGoal r2736 r2745 x2728 x2729) fun r3484 =>
  Option.bind (M.l_toIntS x2718) fun r3494 =>
  Option.bind (M.l_toBalloonS x2723) fun r3503 =>
  Option.bind (M.i_SetGoal r3494 r3503 x2728 x2729) fun r3927 =>
  Option.bind (α := Bool) (Option.bind (M.l_eqBalloonS r3927.1 r3484.1) fun r3945 =>
  bif !r3945 then some true
  else some (!(r3927.2 == r3484.2))) fun o3942 =>
  bif o3942 then some false
  else (Option.bind (M.l_toIntS x2718) fun r3955 =>
  Option.bind (M.l_eqIntS r3494 r3955) fun r3964 =>
  bif !r3964 then some false
  else (Option.bind (M.l_toBalloonS x2723) fun r3969 =>
  Option.bind (M.l_eqBalloonS r3503 r3969) fun r3979 =>
  bif !r3979 then some false
  else (Option.bind (M.l_markIntS r3494 1) fun r4034 =>
  Option.bind (M.l_markBalloonS r3503 r4034.1) fun r4267 =>
  Option.bind (α := Bool) (bif decide (r4267.1 < 0) then some true
  else (Option.bind (M.l_eqBalloonS r3927.1 r3484.1) fun r4285 =>
  bif !r4285 then some true
  else some (!(r3927.2 == r3484.2)))) fun o4281 =>
  bif o4281 then some false
  else (Option.bind (M.l_markBalloonS r3927.1 1) fun r4295 =>
  Option.bind (M.l_heldBalloonS r4295.2 1) fun r4426 =>
  bif decide (r4426 < 0) then some false
  else (bif r4426 != r4295.1 then some false
  else (Option.bind (M.l_toIntS x2718) fun r4432 =>
  Option.bind (M.l_toBalloonS x2723) fun r4441 =>
  Option.bind (M.i_SetGoal r4432 r4441 x2728 x2729) fun r4451 =>
  Option.bind (α := Bool) (Option.bind (M.l_eqBalloonS r4451.1 r3484.1) fun r4469 =>
  bif !r4469 then some true
  else some (!(r4451.2 == r3484.2))) fun o4466 =>
  bif o4466 then some false
  else (Option.bind (M.l_heldBalloonS r4295.2 1) fun r4479 =>
  bif decide (r4479 < 0) then some false
  else (bif r4479 != r4295.1 then some false
  else some true))))))))))
def M.s_l18Owner (x5056 : List Int) (x5061 : Int) (x5062 : Int) : Option ((List Int)) :=
  Option.bind (M.s_l1Own x5056) fun r5068 =>
  Option.bind (gxIdx r5068 x5061) fun y5077 =>
  some (r5068.set x5061.toNat x5062)
def M.s_TakeGiven (x4521 : List Int) (x4526 : List Balloon) (x4531 : Int) : Option ((List Int) × (List Balloon) × Int × Bool) :=
  Option.bind (α := Bool) (Option.bind (M.s_l18Good x4521 x4526) fun r4555 =>
  bif r4555 then (Option.bind (M.s_l1In x4531 1 4) fun r4560 =>
  some r4560)
  else some false) fun o4552 =>
  Option.bind (α := Int) (bif o4552 then (Option.bind (whileM (σ := Int × Int) (ρ := Int) (fun s4933 =>
    bif decide (s4933.2 < (x4526.length : Int)) then (Option.bind (α := Bool) (Option.bind (gxIdx x4526 s4933.2) fun y4974 =>
    bif decide ((y4974.Gave.length : Int) > 0) then (bif decide (s4933.1 < 0) then some true
    else (Option.bind (gxIdx x4526 s4933.2) fun y4986 =>
    Option.bind (gxIdx y4986.Gave 0) fun y4990 =>
    Option.bind (gxIdx x4526 s4933.1) fun y4991 =>
    Option.bind (gxIdx y4991.Gave 0) fun y4995 =>
    some (decide (y4990 < y4995))))
    else some false) fun o4971 =>
    Option.bind (α := Int) (bif o4971 then some s4933.2
    else some s4933.1) fun o5005 =>
    some (.inl (o5005, w64 (s4933.2 + 1))))
    else some (.inr s4933.1)) gxFuel ((-1), 0)) fun out4940 =>
  some out4940)
  else some (-1)) fun o4791 =>
  bif decide (o4791 < 0) then some (([] : List Int), ([] : List Balloon), 0, false)
  else (Option.bind (gxIdx x4526 o4791) fun y5038 =>
  Option.bind (gxIdx y5038.Gave 0) fun y5055 =>
  Option.bind (M.s_l18Owner x4521 y5055 x4531) fun r5082 =>
  Option.bind (gxSlice y5038.Gave 1 (y5038.Gave.length : Int)) fun ys5088 =>
  Option.bind (M.s_l18With x4526 o4791 y5038.Goal ys5088) fun r5090 =>
  Option.bind (gxIdx y5038.Gave 0) fun y5097 =>
  some (r5082, r5090, y5097, true))
def M.slices_Delete_64 (x5336 : List Int) (x5342 : Int) (x5343 : Int) : Option ((List Int) × (List Int)) :=
  bif (decide (0 ≤ x5342) && decide (x5342 < x5343)) && decide (x5343 ≤ (x5336.length : Int)) then some (gxDel x5336 x5342 x5343, gxDelW x5336 x5342 x5343)
  else none
def M.i_TakeGiven (x5221 : List Int) (x5226 : List Balloon) (x5231 : Int) : Option ((List Int) × (List Balloon) × Int × Bool) :=
  Option.bind (α := Bool) (Option.bind (M.i_AreBalloons x5221 x5226) fun r5255 =>
  bif !r5255 then some true
  else (Option.bind (M.i_isGuest x5231) fun r5260 =>
  some (!r5260))) fun o5252 =>
  bif o5252 then some (([] : List Int), ([] : List Balloon), 0, false)
  else (Option.bind (M.i_copyInts x5221) fun r5271 =>
  Option.bind (M.i_newBalloons x5226) fun r5280 =>
  Option.bind (whileM (σ := Int) (ρ := (Unit) ⊕ ((List Int) × (List Balloon) × Int × Bool)) (fun s5760 =>
    bif decide (s5760 < (x5221.length : Int)) then (Option.bind (whileM (σ := Int) (ρ := (Unit) ⊕ ((List Int) × (List Balloon) × Int × Bool)) (fun s5906 =>
      bif decide (s5906 < (r5280.length : Int)) then (Option.bind (gxIdx r5280 s5906) fun y5918 =>
      Option.bind (M.slices_Index_63 y5918.Gave s5760) fun r5933 =>
      bif decide (r5933 ≥ 0) then (Option.bind (M.slices_Delete_64 y5918.Gave r5933 (w64 (r5933 + 1))) fun r5938 =>
      Option.bind (gxIdx r5280 s5906) fun y5967 =>
      Option.bind (gxIdx r5271 s5760) fun y5979 =>
      some (.inr (.inr ((r5271.set s5760.toNat x5231), (r5280.set s5906.toNat (⟨y5918.Guest, y5918.Goal, r5938.1⟩ : Balloon)), s5760, true))))
      else some (.inl (w64 (s5906 + 1))))
      else some (.inr (.inl ()))) gxFuel 0) fun out5913 => Sum.elim (fun (o5916 : Unit) =>
    some (.inl (w64 (s5760 + 1)))) (fun r => some (.inr (.inr r))) out5913)
    else some (.inr (.inl ()))) gxFuel 0) fun out5767 => Sum.elim (fun (o5770 : Unit) =>
  some (([] : List Int), ([] : List Balloon), 0, false)) (fun r => some r) out5767)
def M.l_FnExactTakeGiven (x4485 : List Int) (x4490 : List Balloon) (x4495 : Int) : Option (Bool) :=
  bif decide ((x4485.length : Int) > 1048576) then some true
  else (Option.bind (M.l_szBalloonS x4490 1048576) fun r4497 =>
  bif decide (r4497 < 0) then some true
  else (Option.bind (M.l_toIntS x4485) fun r4502 =>
  Option.bind (M.l_toBalloonS x4490) fun r4511 =>
  Option.bind (M.s_TakeGiven r4502 r4511 x4495) fun r5187 =>
  Option.bind (M.l_toIntS x4485) fun r5202 =>
  Option.bind (M.l_toBalloonS x4490) fun r5211 =>
  Option.bind (M.i_TakeGiven r5202 r5211 x4495) fun r5994 =>
  Option.bind (α := Bool) (Option.bind (M.l_eqIntS r5994.1 r5187.1) fun r6023 =>
  bif !r6023 then some true
  else (Option.bind (M.l_eqBalloonS r5994.2.1 r5187.2.1) fun r6028 =>
  bif !r6028 then some true
  else (bif r5994.2.2.1 != r5187.2.2.1 then some true
  else some (!(r5994.2.2.2 == r5187.2.2.2))))) fun o6020 =>
  bif o6020 then some false
  else (Option.bind (M.l_toIntS x4485) fun r6039 =>
  Option.bind (M.l_eqIntS r5202 r6039) fun r6048 =>
  bif !r6048 then some false
  else (Option.bind (M.l_toBalloonS x4490) fun r6053 =>
  Option.bind (M.l_eqBalloonS r5211 r6053) fun r6063 =>
  bif !r6063 then some false
  else (Option.bind (M.l_markIntS r5202 1) fun r6068 =>
  Option.bind (M.l_markBalloonS r5211 r6068.1) fun r6075 =>
  Option.bind (α := Bool) (bif decide (r6075.1 < 0) then some true
  else (Option.bind (M.l_eqIntS r5994.1 r5187.1) fun r6099 =>
  bif !r6099 then some true
  else (Option.bind (M.l_eqBalloonS r5994.2.1 r5187.2.1) fun r6104 =>
  bif !r6104 then some true
  else (bif r5994.2.2.1 != r5187.2.2.1 then some true
  else some (!(r5994.2.2.2 == r5187.2.2.2)))))) fun o6095 =>
  bif o6095 then some false
  else (Option.bind (M.l_markIntS r5994.1 1) fun r6115 =>
  Option.bind (M.l_markBalloonS r5994.2.1 r6115.1) fun r6122 =>
  Option.bind (M.l_heldIntS r6115.2 1) fun r6130 =>
  bif decide (r6130 < 0) then some false
  else (Option.bind (M.l_heldBalloonS r6122.2 r6130) fun r6135 =>
  bif decide (r6135 < 0) then some false
  else (bif r6135 != r6122.1 then some false
  else (Option.bind (M.l_toIntS x4485) fun r6141 =>
  Option.bind (M.l_toBalloonS x4490) fun r6150 =>
  Option.bind (M.i_TakeGiven r6141 r6150 x4495) fun r6160 =>
  Option.bind (α := Bool) (Option.bind (M.l_eqIntS r6160.1 r5187.1) fun r6189 =>
  bif !r6189 then some true
  else (Option.bind (M.l_eqBalloonS r6160.2.1 r5187.2.1) fun r6194 =>
  bif !r6194 then some true
  else (bif r6160.2.2.1 != r5187.2.2.1 then some true
  else some (!(r6160.2.2.2 == r5187.2.2.2))))) fun o6186 =>
  bif o6186 then some false
  else (Option.bind (M.l_heldIntS r6115.2 1) fun r6205 =>
  bif decide (r6205 < 0) then some false
  else (Option.bind (M.l_heldBalloonS r6122.2 r6205) fun r6210 =>
  bif decide (r6210 < 0) then some false
  else (bif r6210 != r6122.1 then some false
  else some true))))))))))))
def M.s_l18Count (x6415 : List Int) (x6420 : Int) : Option (Int) :=
  Option.bind (whileM (σ := Int × Int) (ρ := Int) (fun s6443 =>
    bif decide (s6443.2 < (x6415.length : Int)) then (Option.bind (gxIdx x6415 s6443.2) fun y6455 =>
    Option.bind (α := Int) (bif y6455 == x6420 then some (w64 (s6443.1 + 1))
    else some s6443.1) fun o6457 =>
    some (.inl (o6457, w64 (s6443.2 + 1))))
    else some (.inr s6443.1)) gxFuel (0, 0)) fun out6450 =>
  some out6450
def M.s_ShareGoals (x6252 : List Int) (x6257 : List Balloon) (x6262 : Int) : Option ((List Balloon) × Bool) :=
  Option.bind (α := Bool) (Option.bind (M.s_l18Good x6252 x6257) fun r6281 =>
  bif !r6281 then some true
  else (Option.bind (M.s_l1In x6262 0 16) fun r6286 =>
  some (!r6286))) fun o6278 =>
  bif o6278 then some (([] : List Balloon), false)
  else (Option.bind (M.s_l18With x6257 (-1) 0 ([] : List Int)) fun r6305 =>
  Option.bind (whileM (σ := List Balloon × Int) (ρ := List Balloon) (fun s6359 =>
    bif decide (s6359.2 < (s6359.1.length : Int)) then (Option.bind (gxIdx s6359.1 s6359.2) fun y6383 =>
    Option.bind (M.s_l18With s6359.1 s6359.2 0 y6383.Gave) fun r6391 =>
    some (.inl (r6391, w64 (s6359.2 + 1))))
    else some (.inr s6359.1)) gxFuel (r6305, 0)) fun out6366 =>
  Option.bind (whileM (σ := Int × List Balloon) (ρ := (List Balloon) ⊕ ((List Balloon) × Bool)) (fun s6867 =>
    bif decide (s6867.1 > 0) then (Option.bind (whileM (σ := Int × Int × Int) (ρ := Int) (fun s6955 =>
      bif decide (s6955.2.2 < (s6867.2.length : Int)) then (Option.bind (gxIdx s6867.2 s6955.2.2) fun y6967 =>
      Option.bind (M.s_l18Count x6252 y6967.Guest) fun r6975 =>
      Option.bind (gxIdx s6867.2 s6955.2.2) fun y6979 =>
      Option.bind (gxIdx s6867.2 s6955.2.2) fun y6983 =>
      Option.bind (α := Int × Int) (bif decide ((w64 ((w64 (r6975 + (y6979.Gave.length : Int))) - y6983.Goal)) > s6955.2.1) then some (s6955.2.2, w64 ((w64 (r6975 + (y6979.Gave.length : Int))) - y6983.Goal))
      else some (s6955.1, s6955.2.1)) fun o6990 =>
      some (.inl (o6990.1, o6990.2, w64 (s6955.2.2 + 1))))
      else some (.inr s6955.1)) gxFuel ((-1), 1, 0)) fun out6962 =>
    bif decide (out6962 < 0) then some (.inr (.inr (([] : List Balloon), false)))
    else (Option.bind (gxIdx s6867.2 out6962) fun y7014 =>
    Option.bind (gxIdx s6867.2 out6962) fun y7022 =>
    Option.bind (M.s_l18With s6867.2 out6962 (w64 (y7014.Goal + 1)) y7022.Gave) fun r7081 =>
    some (.inl (w64 (s6867.1 - 1), r7081))))
    else some (.inr (.inl s6867.2))) gxFuel (x6262, out6366)) fun out6874 => Sum.elim (fun (o6883 : List Balloon) =>
  some (o6883, true)) (fun r => some r) out6874)
def M.i_framesOf (x7217 : List Int) (x7222 : Int) : Option ((List Int)) :=
  Option.bind (whileM (σ := List Int × Int) (ρ := List Int) (fun s7332 =>
    bif decide (s7332.2 < (x7217.length : Int)) then (Option.bind (gxIdx x7217 s7332.2) fun y7354 =>
    Option.bind (α := List Int) (bif y7354 == x7222 then (Option.bind (gxApp 8 s7332.1 [s7332.2]) fun ap7387 =>
    some ap7387)
    else some s7332.1) fun o7371 =>
    some (.inl (o7371, w64 (s7332.2 + 1))))
    else some (.inr s7332.1)) gxFuel (([] : List Int), 0)) fun out7339 =>
  some out7339
def M.slices_Max_67 (x7709 : List Int) : Option (Int) :=
  bif decide ((x7709.length : Int) < 1) then (none)
  else (Option.bind (gxIdx x7709 0) fun y7715 =>
  Option.bind (whileM (σ := Int × Int) (ρ := Int) (fun s7720 =>
    bif decide (s7720.2 < (x7709.length : Int)) then (Option.bind (gxIdx x7709 s7720.2) fun y7732 =>
    some (.inl (gxMax s7720.1 y7732, w64 (s7720.2 + 1))))
    else some (.inr s7720.1)) gxFuel (y7715, 1)) fun out7727 =>
  some out7727)
def M.i_ShareGoals (x7124 : List Int) (x7129 : List Balloon) (x7134 : Int) : Option ((List Balloon) × Bool) :=
  Option.bind (α := Bool) (Option.bind (M.i_AreBalloons x7124 x7129) fun r7153 =>
  bif !r7153 then some true
  else (Option.bind (M.i_isGoal x7134) fun r7158 =>
  some (!r7158))) fun o7150 =>
  bif o7150 then some (([] : List Balloon), false)
  else (Option.bind (M.i_newBalloons x7129) fun r7168 =>
  Option.bind (whileM (σ := List Int × Int × List Balloon) (ρ := List Int × List Balloon) (fun s7577 =>
    bif decide (s7577.2.1 < (x7129.length : Int)) then (Option.bind (gxIdx x7129 s7577.2.1) fun y7605 =>
    Option.bind (gxIdx s7577.2.2 s7577.2.1) fun y7620 =>
    Option.bind (M.i_framesOf x7124 y7605.Guest) fun r7636 =>
    Option.bind (gxApp 8 s7577.1 [w64 ((r7636.length : Int) + (y7605.Gave.length : Int))]) fun ap7695 =>
    some (.inl (ap7695, w64 (s7577.2.1 + 1), (s7577.2.2.set s7577.2.1.toNat (⟨y7620.Guest, 0, y7620.Gave⟩ : Balloon)))))
    else some (.inr (s7577.1, s7577.2.2))) gxFuel (([] : List Int), 0, r7168)) fun out7584 =>
  Option.bind (whileM (σ := Int × List Balloon × List Int) (ρ := (List Balloon × List Int) ⊕ ((List Balloon) × Bool)) (fun s7844 =>
    bif decide (s7844.1 < x7134) then (Option.bind (α := Bool) (bif (s7844.2.2.length : Int) == 0 then some true
    else (Option.bind (M.slices_Max_67 s7844.2.2) fun r7875 =>
    some (decide (r7875 < 2)))) fun o7871 =>
    bif o7871 then some (.inr (.inr (([] : List Balloon), false)))
    else (Option.bind (M.slices_Max_67 s7844.2.2) fun r7885 =>
    Option.bind (M.slices_Index_63 s7844.2.2 r7885) fun r7889 =>
    Option.bind (gxIdx s7844.2.2 r7889) fun y7893 =>
    Option.bind (gxIdx s7844.2.2 r7889) fun y7894 =>
    Option.bind (gxIdx s7844.2.1 r7889) fun y7899 =>
    Option.bind (gxIdx s7844.2.1 r7889) fun y7907 =>
    some (.inl (w64 (s7844.1 + 1), (s7844.2.1.set r7889.toNat (⟨y7907.Guest, w64 (y7899.Goal + 1), y7907.Gave⟩ : Balloon)), (s7844.2.2.set r7889.toNat (w64 (y7893 - 1)))))))
    else some (.inr (.inl (s7844.2.1, s7844.2.2)))) gxFuel (0, out7584.2, out7584.1)) fun out7851 => Sum.elim (fun (o7859 : List Balloon × List Int) =>
  some (o7859.1, true)) (fun r => some r) out7851)
def M.l_FnExactShareGoals (x6216 : List Int) (x6221 : List Balloon) (x6226 : Int) : Option (Bool) :=
  bif decide ((x6216.length : Int) > 1048576) then some true
  else (Option.bind (M.l_szBalloonS x6221 1048576) fun r6228 =>
  bif decide (r6228 < 0) then some true
  else (Option.bind (M.l_toIntS x6216) fun r6233 =>
  Option.bind (M.l_toBalloonS x6221) fun r6242 =>
  Option.bind (M.s_ShareGoals r6233 r6242 x6226) fun r7095 =>
  Option.bind (M.l_toIntS x6216) fun r7105 =>
  Option.bind (M.l_toBalloonS x6221) fun r7114 =>
  Option.bind (M.i_ShareGoals r7105 r7114 x6226) fun r7921 =>
  Option.bind (α := Bool) (Option.bind (M.l_eqBalloonS r7921.1 r7095.1) fun r7939 =>
  bif !r7939 then some true
  else some (!(r7921.2 == r7095.2))) fun o7936 =>
  bif o7936 then some false
  else (Option.bind (M.l_toIntS x6216) fun r7949 =>
  Option.bind (M.l_eqIntS r7105 r7949) fun r7958 =>
  bif !r7958 then some false
  else (Option.bind (M.l_toBalloonS x6221) fun r7963 =>
  Option.bind (M.l_eqBalloonS r7114 r7963) fun r7973 =>
  bif !r7973 then some false
  else (Option.bind (M.l_markIntS r7105 1) fun r7978 =>
  Option.bind (M.l_markBalloonS r7114 r7978.1) fun r7985 =>
  Option.bind (α := Bool) (bif decide (r7985.1 < 0) then some true
  else (Option.bind (M.l_eqBalloonS r7921.1 r7095.1) fun r8003 =>
  bif !r8003 then some true
  else some (!(r7921.2 == r7095.2)))) fun o7999 =>
  bif o7999 then some false
  else (Option.bind (M.l_markBalloonS r7921.1 1) fun r8013 =>
  Option.bind (M.l_heldBalloonS r8013.2 1) fun r8021 =>
  bif decide (r8021 < 0) then some false
  else (bif r8021 != r8013.1 then some false
  else (Option.bind (M.l_toIntS x6216) fun r8027 =>
  Option.bind (M.l_toBalloonS x6221) fun r8036 =>
  Option.bind (M.i_ShareGoals r8027 r8036 x6226) fun r8046 =>
  Option.bind (α := Bool) (Option.bind (M.l_eqBalloonS r8046.1 r7095.1) fun r8064 =>
  bif !r8064 then some true
  else some (!(r8046.2 == r7095.2))) fun o8061 =>
  bif o8061 then some false
  else (Option.bind (M.l_heldBalloonS r8013.2 1) fun r8074 =>
  bif decide (r8074 < 0) then some false
  else (bif r8074 != r8013.1 then some false
  else some true))))))))))
def M.s_l1Put (x8384 : List Int) (x8390 : Int) : Option ((List Int)) :=
  Option.bind (whileM (σ := Int) (ρ := Int) (fun s8420 =>
    Option.bind (α := Bool) (bif decide (s8420 < (x8384.length : Int)) then (Option.bind (gxIdx x8384 s8420) fun y8437 =>
    some (decide (y8437 < x8390)))
    else some false) fun o8433 =>
    bif o8433 then some (.inl (w64 (s8420 + 1)))
    else some (.inr s8420)) gxFuel 0) fun out8427 =>
  Option.bind (α := Bool) (bif decide (out8427 < (x8384.length : Int)) then (Option.bind (gxIdx x8384 out8427) fun y8453 =>
  some (y8453 == x8390))
  else some false) fun o8449 =>
  bif o8449 then some x8384
  else (Option.bind (gxSlice x8384 0 out8427) fun ys8466 =>
  Option.bind (gxApp 8 ([] : List Int) ys8466) fun ap8468 =>
  Option.bind (gxApp 8 ap8468 [x8390]) fun ap8479 =>
  Option.bind (gxSlice x8384 out8427 (x8384.length : Int)) fun ys8485 =>
  Option.bind (gxApp 8 ap8479 ys8485) fun ap8534 =>
  some ap8534)
def M.s_l18Step (x8200 : List Int) (x8205 : List Balloon) (x8210 : Int) (x8211 : Int) : Option ((List Int) × (List Balloon) × Bool) :=
  Option.bind (gxIdx x8205 x8210) fun y8223 =>
  bif decide (x8211 < 0) then (bif decide ((y8223.Gave.length : Int) ≤ y8223.Goal) then some (x8200, x8205, false)
  else (Option.bind (gxIdx y8223.Gave 0) fun y8242 =>
  Option.bind (M.s_l18Owner x8200 y8242 y8223.Guest) fun r8243 =>
  Option.bind (gxSlice y8223.Gave 1 (y8223.Gave.length : Int)) fun ys8249 =>
  Option.bind (M.s_l18With x8205 x8210 y8223.Goal ys8249) fun r8315 =>
  some (r8243, r8315, true)))
  else (Option.bind (α := Bool) (bif decide ((y8223.Gave.length : Int) ≥ y8223.Goal) then some true
  else (Option.bind (M.s_l18Count x8200 y8223.Guest) fun r8334 =>
  some (decide (r8334 < 2)))) fun o8330 =>
  bif o8330 then some (x8200, x8205, false)
  else (Option.bind (whileM (σ := Int) (ρ := Int) (fun s8351 =>
    Option.bind (gxIdx x8200 s8351) fun y8362 =>
    bif y8362 != y8223.Guest then some (.inl (w64 (s8351 - 1)))
    else some (.inr s8351)) gxFuel (w64 ((x8200.length : Int) - 1))) fun out8358 =>
  Option.bind (M.s_l18Owner x8200 out8358 0) fun r8372 =>
  Option.bind (M.s_l1Own y8223.Gave) fun r8378 =>
  Option.bind (M.s_l1Put r8378 out8358) fun r8542 =>
  Option.bind (M.s_l18With x8205 x8210 y8223.Goal r8542) fun r8603 =>
  some (r8372, r8603, true)))
def M.s_Deflate (x8116 : List Int) (x8121 : List Balloon) (x8126 : Int) : Option ((List Int) × (List Balloon) × Bool) :=
  Option.bind (M.s_l18Find x8121 x8126) fun r8138 =>
  Option.bind (α := Bool) (Option.bind (M.s_l18Good x8116 x8121) fun r8150 =>
  bif r8150 then some (decide (r8138 ≥ 0))
  else some false) fun o8147 =>
  Option.bind (α := (Unit) ⊕ ((List Int) × (List Balloon) × Bool)) (bif o8147 then (Option.bind (M.s_l18Step x8116 x8121 r8138 (-1)) fun r8634 =>
  bif r8634.2.2 then some (.inr (r8634.1, r8634.2.1, true))
  else some (.inl ()))
  else some (.inl ())) fun out8632 => Sum.elim (fun (o8629 : Unit) =>
  some (([] : List Int), ([] : List Balloon), false)) (fun r => some r) out8632
def M.i_deflate__e1 (x8840 : List Int) (x8846 : List Balloon) (x8853 : Int) : Option (Bool × (List Int) × (List Balloon)) :=
  Option.bind (gxIdx x8846 x8853) fun y8854 =>
  bif decide ((y8854.Gave.length : Int) ≤ y8854.Goal) then some (false, x8840, x8846)
  else (Option.bind (gxIdx y8854.Gave 0) fun y8872 =>
  Option.bind (gxIdx x8840 y8872) fun y8921 =>
  Option.bind (gxSlice y8854.Gave 1 (y8854.Gave.length : Int)) fun ys8927 =>
  some (true, (x8840.set y8872.toNat y8854.Guest), (x8846.set x8853.toNat (⟨y8854.Guest, y8854.Goal, ys8927⟩ : Balloon))))
def M.i_Deflate (x8704 : List Int) (x8709 : List Balloon) (x8714 : Int) : Option ((List Int) × (List Balloon) × Bool) :=
  Option.bind (M.i_balloonOf x8704 x8709 x8714) fun r8726 =>
  bif !r8726.2 then some (([] : List Int), ([] : List Balloon), false)
  else (Option.bind (M.i_copyInts x8704) fun r8733 =>
  Option.bind (M.i_newBalloons x8709) fun r8742 =>
  Option.bind (gxIdx r8742 r8726.1) fun y8752 =>
  Option.bind (M.i_deflate__e1 r8733 r8742 r8726.1) fun r8952 =>
  bif !r8952.1 then some (([] : List Int), ([] : List Balloon), false)
  else some (r8952.2.1, r8952.2.2, true))
def M.l_FnExactDeflate (x8080 : List Int) (x8085 : List Balloon) (x8090 : Int) : Option (Bool) :=
  bif decide ((x8080.length : Int) > 1048576) then some true
  else (Option.bind (M.l_szBalloonS x8085 1048576) fun r8092 =>
  bif decide (r8092 < 0) then some true
  else (Option.bind (M.l_toIntS x8080) fun r8097 =>
  Option.bind (M.l_toBalloonS x8085) fun r8106 =>
  Option.bind (M.s_Deflate r8097 r8106 x8090) fun r8670 =>
  Option.bind (M.l_toIntS x8080) fun r8685 =>
  Option.bind (M.l_toBalloonS x8085) fun r8694 =>
  Option.bind (M.i_Deflate r8685 r8694 x8090) fun r8966 =>
  Option.bind (α := Bool) (Option.bind (M.l_eqIntS r8966.1 r8670.1) fun r8994 =>
  bif !r8994 then some true
  else (Option.bind (M.l_eqBalloonS r8966.2.1 r8670.2.1) fun r8999 =>
  bif !r8999 then some true
  else some (!(r8966.2.2 == r8670.2.2)))) fun o8991 =>
  bif o8991 then some false
  else (Option.bind (M.l_toIntS x8080) fun r9009 =>
  Option.bind (M.l_eqIntS r8685 r9009) fun r9018 =>
  bif !r9018 then some false
  else (Option.bind (M.l_toBalloonS x8085) fun r9023 =>
  Option.bind (M.l_eqBalloonS r8694 r9023) fun r9033 =>
  bif !r9033 then some false
  else (Option.bind (M.l_markIntS r8685 1) fun r9038 =>
  Option.bind (M.l_markBalloonS r8694 r9038.1) fun r9045 =>
  Option.bind (α := Bool) (bif decide (r9045.1 < 0) then some true
  else (Option.bind (M.l_eqIntS r8966.1 r8670.1) fun r9068 =>
  bif !r9068 then some true
  else (Option.bind (M.l_eqBalloonS r8966.2.1 r8670.2.1) fun r9073 =>
  bif !r9073 then some true
  else some (!(r8966.2.2 == r8670.2.2))))) fun o9064 =>
  bif o9064 then some false
  else (Option.bind (M.l_markIntS r8966.1 1) fun r9083 =>
  Option.bind (M.l_markBalloonS r8966.2.1 r9083.1) fun r9090 =>
  Option.bind (M.l_heldIntS r9083.2 1) fun r9098 =>
  bif decide (r9098 < 0) then some false
  else (Option.bind (M.l_heldBalloonS r9090.2 r9098) fun r9103 =>
  bif decide (r9103 < 0) then some false
  else (bif r9103 != r9090.1 then some false
  else (Option.bind (M.l_toIntS x8080) fun r9109 =>
  Option.bind (M.l_toBalloonS x8085) fun r9118 =>
  Option.bind (M.i_Deflate r9109 r9118 x8090) fun r9128 =>
  Option.bind (α := Bool) (Option.bind (M.l_eqIntS r9128.1 r8670.1) fun r9156 =>
  bif !r9156 then some true
  else (Option.bind (M.l_eqBalloonS r9128.2.1 r8670.2.1) fun r9161 =>
  bif !r9161 then some true
  else some (!(r9128.2.2 == r8670.2.2)))) fun o9153 =>
  bif o9153 then some false
  else (Option.bind (M.l_heldIntS r9083.2 1) fun r9171 =>
  bif decide (r9171 < 0) then some false
  else (Option.bind (M.l_heldBalloonS r9090.2 r9171) fun r9176 =>
  bif decide (r9176 < 0) then some false
  else (bif r9176 != r9090.1 then some false
  else some true))))))))))))
def M.s_Inflate (x9218 : List Int) (x9223 : List Balloon) (x9228 : Int) : Option ((List Int) × (List Balloon) × Bool) :=
  Option.bind (M.s_l18Find x9223 x9228) fun r9240 =>
  Option.bind (α := Bool) (Option.bind (M.s_l18Good x9218 x9223) fun r9252 =>
  bif r9252 then some (decide (r9240 ≥ 0))
  else some false) fun o9249 =>
  Option.bind (α := (Unit) ⊕ ((List Int) × (List Balloon) × Bool)) (bif o9249 then (Option.bind (M.s_l18Step x9218 x9223 r9240 1) fun r9283 =>
  bif r9283.2.2 then some (.inr (r9283.1, r9283.2.1, true))
  else some (.inl ()))
  else some (.inl ())) fun out9281 => Sum.elim (fun (o9278 : Unit) =>
  some (([] : List Int), ([] : List Balloon), false)) (fun r => some r) out9281
def M.slices_Sort_88 (x9578 : List Int) : Option ((List Int)) :=
  bif decide (x9578.length < 4611686018427387904) then some (gxSortI x9578)
  else none
def M.i_inflate__e1 (x9465 : List Int) (x9471 : List Balloon) (x9478 : Int) : Option (Bool × (List Int) × (List Balloon)) :=
  Option.bind (gxIdx x9471 x9478) fun y9479 =>
  Option.bind (M.i_framesOf x9465 y9479.Guest) fun r9490 =>
  Option.bind (α := Bool) (bif decide ((y9479.Gave.length : Int) ≥ y9479.Goal) then some true
  else some (decide ((r9490.length : Int) < 2))) fun o9506 =>
  bif o9506 then some (false, x9465, x9471)
  else (Option.bind (gxIdx r9490 (w64 ((r9490.length : Int) - 1))) fun y9521 =>
  Option.bind (gxIdx x9465 y9521) fun y9522 =>
  Option.bind (gxApp 8 y9479.Gave [y9521]) fun ap9549 =>
  Option.bind (M.slices_Sort_88 ((⟨y9479.Guest, y9479.Goal, ap9549⟩ : Balloon).Gave)) fun r9585 =>
  some (true, (x9465.set y9521.toNat 0), ((x9471.set x9478.toNat (⟨y9479.Guest, y9479.Goal, ap9549⟩ : Balloon)).set x9478.toNat (⟨(⟨y9479.Guest, y9479.Goal, ap9549⟩ : Balloon).Guest, (⟨y9479.Guest, y9479.Goal, ap9549⟩ : Balloon).Goal, r9585⟩ : Balloon))))
def M.i_Inflate (x9353 : List Int) (x9358 : List Balloon) (x9363 : Int) : Option ((List Int) × (List Balloon) × Bool) :=
  Option.bind (M.i_balloonOf x9353 x9358 x9363) fun r9375 =>
  bif !r9375.2 then some (([] : List Int), ([] : List Balloon), false)
  else (Option.bind (M.i_copyInts x9353) fun r9382 =>
  Option.bind (M.i_newBalloons x9358) fun r9391 =>
  Option.bind (gxIdx r9391 r9375.1) fun y9401 =>
  Option.bind (M.i_inflate__e1 r9382 r9391 r9375.1) fun r9611 =>
  bif !r9611.1 then some (([] : List Int), ([] : List Balloon), false)
  else some (r9611.2.1, r9611.2.2, true))
def M.l_FnExactInflate (x9182 : List Int) (x9187 : List Balloon) (x9192 : Int) : Option (Bool) :=
  bif decide ((x9182.length : Int) > 1048576) then some true
  else (Option.bind (M.l_szBalloonS x9187 1048576) fun r9194 =>
  bif decide (r9194 < 0) then some true
  else (Option.bind (M.l_toIntS x9182) fun r9199 =>
  Option.bind (M.l_toBalloonS x9187) fun r9208 =>
  Option.bind (M.s_Inflate r9199 r9208 x9192) fun r9319 =>
  Option.bind (M.l_toIntS x9182) fun r9334 =>
  Option.bind (M.l_toBalloonS x9187) fun r9343 =>
  Option.bind (M.i_Inflate r9334 r9343 x9192) fun r9625 =>
  Option.bind (α := Bool) (Option.bind (M.l_eqIntS r9625.1 r9319.1) fun r9653 =>
  bif !r9653 then some true
  else (Option.bind (M.l_eqBalloonS r9625.2.1 r9319.2.1) fun r9658 =>
  bif !r9658 then some true
  else some (!(r9625.2.2 == r9319.2.2)))) fun o9650 =>
  bif o9650 then some false
  else (Option.bind (M.l_toIntS x9182) fun r9668 =>
  Option.bind (M.l_eqIntS r9334 r9668) fun r9677 =>
  bif !r9677 then some false
  else (Option.bind (M.l_toBalloonS x9187) fun r9682 =>
  Option.bind (M.l_eqBalloonS r9343 r9682) fun r9692 =>
  bif !r9692 then some false
  else (Option.bind (M.l_markIntS r9334 1) fun r9697 =>
  Option.bind (M.l_markBalloonS r9343 r9697.1) fun r9704 =>
  Option.bind (α := Bool) (bif decide (r9704.1 < 0) then some true
  else (Option.bind (M.l_eqIntS r9625.1 r9319.1) fun r9727 =>
  bif !r9727 then some true
  else (Option.bind (M.l_eqBalloonS r9625.2.1 r9319.2.1) fun r9732 =>
  bif !r9732 then some true
  else some (!(r9625.2.2 == r9319.2.2))))) fun o9723 =>
  bif o9723 then some false
  else (Option.bind (M.l_markIntS r9625.1 1) fun r9742 =>
  Option.bind (M.l_markBalloonS r9625.2.1 r9742.1) fun r9749 =>
  Option.bind (M.l_heldIntS r9742.2 1) fun r9757 =>
  bif decide (r9757 < 0) then some false
  else (Option.bind (M.l_heldBalloonS r9749.2 r9757) fun r9762 =>
  bif decide (r9762 < 0) then some false
  else (bif r9762 != r9749.1 then some false
  else (Option.bind (M.l_toIntS x9182) fun r9768 =>
  Option.bind (M.l_toBalloonS x9187) fun r9777 =>
  Option.bind (M.i_Inflate r9768 r9777 x9192) fun r9787 =>
  Option.bind (α := Bool) (Option.bind (M.l_eqIntS r9787.1 r9319.1) fun r9815 =>
  bif !r9815 then some true
  else (Option.bind (M.l_eqBalloonS r9787.2.1 r9319.2.1) fun r9820 =>
  bif !r9820 then some true
  else some (!(r9787.2.2 == r9319.2.2)))) fun o9812 =>
  bif o9812 then some false
  else (Option.bind (M.l_heldIntS r9742.2 1) fun r9830 =>
  bif decide (r9830 < 0) then some false
  else (Option.bind (M.l_heldBalloonS r9749.2 r9830) fun r9835 =>
  bif decide (r9835 < 0) then some false
  else (bif r9835 != r9749.1 then some false
  else some true))))))))))))
def M.s_SettleGuest (x9877 : List Int) (x9882 : List Balloon) (x9887 : Int) : Option ((List Int) × (List Balloon) × Int × Bool) :=
  Option.bind (M.s_l18Find x9882 x9887) fun r9899 =>
  Option.bind (α := Bool) (Option.bind (M.s_l18Good x9877 x9882) fun r9911 =>
  bif !r9911 then some true
  else some (decide (r9899 < 0))) fun o9908 =>
  bif o9908 then some (([] : List Int), ([] : List Balloon), 0, false)
  else (Option.bind (M.s_l1Own x9877) fun r9937 =>
  Option.bind (M.s_l18With x9882 (-1) 0 ([] : List Int)) fun r9947 =>
  Option.bind (gxIdx x9882 r9899) fun y9957 =>
  Option.bind (gxIdx x9882 r9899) fun y9965 =>
  Option.bind (α := Int) (bif decide ((y9957.Gave.length : Int) > y9965.Goal) then some (-1)
  else some 1) fun o9972 =>
  Option.bind (whileM (σ := List Int × List Balloon × Int) (ρ := (List Int) × (List Balloon) × Int × Bool) (fun s10023 =>
    Option.bind (M.s_l18Step s10023.1 s10023.2.1 r9899 o9972) fun r10044 =>
    bif !r10044.2.2 then some (.inr (s10023.1, s10023.2.1, s10023.2.2, true))
    else some (.inl (r10044.1, r10044.2.1, w64 (s10023.2.2 + 1)))) gxFuel (r9937, r9947, 0)) fun out10030 => some out10030)
def M.i_SettleGuest (x10098 : List Int) (x10103 : List Balloon) (x10108 : Int) : Option ((List Int) × (List Balloon) × Int × Bool) :=
  Option.bind (M.i_balloonOf x10098 x10103 x10108) fun r10120 =>
  bif !r10120.2 then some (([] : List Int), ([] : List Balloon), 0, false)
  else (Option.bind (M.i_copyInts x10098) fun r10127 =>
  Option.bind (M.i_newBalloons x10103) fun r10136 =>
  Option.bind (whileM (σ := Int × List Int × List Balloon) (ρ := Int × List Int × List Balloon) (fun s10325 =>
    Option.bind (α := Bool × List Int × List Balloon) (Option.bind (gxIdx s10325.2.2 r10120.1) fun y10391 =>
    Option.bind (M.i_inflate__e1 s10325.2.1 s10325.2.2 r10120.1) fun r10398 =>
    bif r10398.1 then some (true, r10398.2.1, r10398.2.2)
    else (Option.bind (gxIdx r10398.2.2 r10120.1) fun y10410 =>
    Option.bind (M.i_deflate__e1 r10398.2.1 r10398.2.2 r10120.1) fun r10417 =>
    some (r10417.1, r10417.2.1, r10417.2.2))) fun o10383 =>
    bif o10383.1 then some (.inl (w64 (s10325.1 + 1), o10383.2.1, o10383.2.2))
    else some (.inr (s10325.1, o10383.2.1, o10383.2.2))) gxFuel (0, r10127, r10136)) fun out10332 =>
  some (out10332.2.1, out10332.2.2, out10332.1, true))
def M.l_FnExactSettleGuest (x9841 : List Int) (x9846 : List Balloon) (x9851 : Int) : Option (Bool) :=
  bif decide ((x9841.length : Int) > 1048576) then some true
  else (Option.bind (M.l_szBalloonS x9846 1048576) fun r9853 =>
  bif decide (r9853 < 0) then some true
  else (Option.bind (M.l_toIntS x9841) fun r9858 =>
  Option.bind (M.l_toBalloonS x9846) fun r9867 =>
  Option.bind (M.s_SettleGuest r9858 r9867 x9851) fun r10064 =>
  Option.bind (M.l_toIntS x9841) fun r10079 =>
  Option.bind (M.l_toBalloonS x9846) fun r10088 =>
  Option.bind (M.i_SettleGuest r10079 r10088 x9851) fun r10437 =>
  Option.bind (α := Bool) (Option.bind (M.l_eqIntS r10437.1 r10064.1) fun r10466 =>
  bif !r10466 then some true
  else (Option.bind (M.l_eqBalloonS r10437.2.1 r10064.2.1) fun r10471 =>
  bif !r10471 then some true
  else (bif r10437.2.2.1 != r10064.2.2.1 then some true
  else some (!(r10437.2.2.2 == r10064.2.2.2))))) fun o10463 =>
  bif o10463 then some false
  else (Option.bind (M.l_toIntS x9841) fun r10482 =>
  Option.bind (M.l_eqIntS r10079 r10482) fun r10491 =>
  bif !r10491 then some false
  else (Option.bind (M.l_toBalloonS x9846) fun r10496 =>
  Option.bind (M.l_eqBalloonS r10088 r10496) fun r10506 =>
  bif !r10506 then some false
  else (Option.bind (M.l_markIntS r10079 1) fun r10511 =>
  Option.bind (M.l_markBalloonS r10088 r10511.1) fun r10518 =>
  Option.bind (α := Bool) (bif decide (r10518.1 < 0) then some true
  else (Option.bind (M.l_eqIntS r10437.1 r10064.1) fun r10542 =>
  bif !r10542 then some true
  else (Option.bind (M.l_eqBalloonS r10437.2.1 r10064.2.1) fun r10547 =>
  bif !r10547 then some true
  else (bif r10437.2.2.1 != r10064.2.2.1 then some true
  else some (!(r10437.2.2.2 == r10064.2.2.2)))))) fun o10538 =>
  bif o10538 then some false
  else (Option.bind (M.l_markIntS r10437.1 1) fun r10558 =>
  Option.bind (M.l_markBalloonS r10437.2.1 r10558.1) fun r10565 =>
  Option.bind (M.l_heldIntS r10558.2 1) fun r10573 =>
  bif decide (r10573 < 0) then some false
  else (Option.bind (M.l_heldBalloonS r10565.2 r10573) fun r10578 =>
  bif decide (r10578 < 0) then some false
  else (bif r10578 != r10565.1 then some false
  else (Option.bind (M.l_toIntS x9841) fun r10584 =>
  Option.bind (M.l_toBalloonS x9846) fun r10593 =>
  Option.bind (M.i_SettleGuest r10584 r10593 x9851) fun r10603 =>
  Option.bind (α := Bool) (Option.bind (M.l_eqIntS r10603.1 r10064.1) fun r10632 =>
  bif !r10632 then some true
  else (Option.bind (M.l_eqBalloonS r10603.2.1 r10064.2.1) fun r10637 =>
  bif !r10637 then some true
  else (bif r10603.2.2.1 != r10064.2.2.1 then some true
  else some (!(r10603.2.2.2 == r10064.2.2.2))))) fun o10629 =>
  bif o10629 then some false
  else (Option.bind (M.l_heldIntS r10558.2 1) fun r10648 =>
  bif decide (r10648 < 0) then some false
  else (Option.bind (M.l_heldBalloonS r10565.2 r10648) fun r10653 =>
  bif decide (r10653 < 0) then some false
  else (bif r10653 != r10565.1 then some false
  else some true))))))))))))
def M.l_rBig (x10664 : List Int) : Option (Bool) :=
  some (decide ((x10664.length : Int) > 65536))
def M.s_l1Cur_next (x10725 : l1Cur) : Option (Int × Int × Int) :=
  Option.bind (α := Int) (bif decide (x10725.at_ < (x10725.code.length : Int)) then (Option.bind (gxIdx x10725.code x10725.at_) fun y10743 =>
  some (w64 y10743))
  else some 0) fun o10739 =>
  bif decide ((w64 (x10725.at_ + 1)) ≤ (x10725.code.length : Int)) then some (o10739, w64 (x10725.at_ + 1), IntKind.u64.wrap ((IntKind.u64.wrap ((IntKind.u64.wrap (x10725.seed * 6364136223846793005)) + (IntKind.u64.wrap o10739))) + 843843))
  else some (w64 (gxAnd .u64 ((IntKind.u64.wrap ((IntKind.u64.wrap ((IntKind.u64.wrap (x10725.seed * 6364136223846793005)) + (IntKind.u64.wrap o10739))) + 843843)).fdiv (2 ^ 40)) 255), w64 (x10725.at_ + 1), IntKind.u64.wrap ((IntKind.u64.wrap ((IntKind.u64.wrap (x10725.seed * 6364136223846793005)) + (IntKind.u64.wrap o10739))) + 843843))
def M.s_l1Cur_pick (x10715 : l1Cur) (x10723 : Int) : Option (Int × Int × Int) :=
  bif decide (x10723 ≤ 1) then some (0, x10715.at_, x10715.seed)
  else (Option.bind (M.s_l1Cur_next x10715) fun r10757 =>
  Option.bind (α := Int × Int × Int) (bif decide (x10723 > 200) then (Option.bind (M.s_l1Cur_next (⟨x10715.code, r10757.2.1, r10757.2.2⟩ : l1Cur)) fun r10770 =>
  some (w64 ((w64 (r10757.1 * 256)) + r10770.1), r10770.2.1, r10770.2.2))
  else some (r10757.1, r10757.2.1, r10757.2.2)) fun o10766 =>
  Option.bind (gxRem o10766.1 x10723) fun q10778 =>
  some (q10778, o10766.2.1, o10766.2.2))
def M.s_l1Cur_among (x10791 : l1Cur) (x10799 : List Int) : Option (Int × Int × Int) :=
  Option.bind (M.s_l1Cur_pick x10791 (x10799.length : Int)) fun r10805 =>
  Option.bind (gxIdx x10799 r10805.1) fun y10809 =>
  some (y10809, r10805.2.1, r10805.2.2)
def M.s_l1Cur_owners (x10695 : l1Cur) : Option ((List Int) × Int × Int) :=
  Option.bind (M.s_l1Cur_pick x10695 16) fun r10779 =>
  Option.bind (whileM (σ := List Int × Int × Int × Int) (ρ := List Int × Int × Int) (fun s10861 =>
    bif decide (s10861.2.1 > 0) then (Option.bind (M.s_l1Cur_among (⟨x10695.code, s10861.2.2.1, s10861.2.2.2⟩ : l1Cur) [0, 0, 0, 1, 1, 2, 3, 4]) fun r10890 =>
    Option.bind (gxApp 8 s10861.1 [r10890.1]) fun ap10901 =>
    some (.inl (ap10901, w64 (s10861.2.1 - 1), r10890.2.1, r10890.2.2)))
    else some (.inr (s10861.1, s10861.2.2.1, s10861.2.2.2))) gxFuel (([] : List Int), w64 (1 + r10779.1), r10779.2.1, r10779.2.2)) fun out10868 =>
  Option.bind (M.s_l1Cur_pick (⟨x10695.code, out10868.2.1, out10868.2.2⟩ : l1Cur) 24) fun r10913 =>
  Option.bind (α := List Int × Int × Int × List Int) (bif r10913.1 == 0 then (Option.bind (M.s_l1Cur_pick (⟨x10695.code, r10913.2.1, r10913.2.2⟩ : l1Cur) (out10868.1.length : Int)) fun r11365 =>
  Option.bind (M.s_l1Cur_among (⟨x10695.code, r11365.2.1, r11365.2.2⟩ : l1Cur) [(-1), 5]) fun r11376 =>
  Option.bind (gxIdx out10868.1 r11365.1) fun y11380 =>
  some ((out10868.1.set r11365.1.toNat r11376.1), r11376.2.1, r11376.2.2, (out10868.1.set r11365.1.toNat r11376.1)))
  else (Option.bind (α := List Int × Int × Int) (bif r10913.1 == 1 then some (([] : List Int), r10913.2.1, r10913.2.2)
  else (Option.bind (α := List Int × Int × Int) (bif r10913.1 == 2 then (Option.bind (whileM (σ := List Int × Int × Int) (ρ := List Int × Int × Int) (fun s11748 =>
    Option.bind (M.s_l1Cur_pick (⟨x10695.code, s11748.2.1, s11748.2.2⟩ : l1Cur) 2) fun r11769 =>
    bif decide ((s11748.1.length : Int) < (w64 (16 + r11769.1))) then (Option.bind (gxApp 8 s11748.1 [0]) fun ap11781 =>
    some (.inl (ap11781, r11769.2.1, r11769.2.2)))
    else some (.inr (s11748.1, r11769.2.1, r11769.2.2))) gxFuel (out10868.1, r10913.2.1, r10913.2.2)) fun out11755 =>
  some (out11755.1, out11755.2.1, out11755.2.2))
  else some (out10868.1, r10913.2.1, r10913.2.2)) fun o11694 =>
  some (o11694.1, o11694.2.1, o11694.2.2))) fun o11587 =>
  some (o11587.1, o11587.2.1, o11587.2.2, out10868.1))) fun o11354 =>
  some (o11354.1, o11354.2.1, o11354.2.2.1)
def M.s_l1Cur_one (x11851 : l1Cur) (x11859 : Int) : Option (Bool × Int × Int) :=
  Option.bind (M.s_l1Cur_pick x11851 x11859) fun r11860 =>
  some (r11860.1 == 0, r11860.2.1, r11860.2.2)
def M.s_l1Cur_balloons (x20577 : l1Cur) (x20585 : List Int) : Option ((List Balloon) × Int × Int) :=
  Option.bind (whileM (σ := List Balloon × List Int × Int × Int × Int) (ρ := List Balloon × Int × Int) (fun s22410 =>
    bif decide (s22410.2.2.1 ≤ 4) then (Option.bind (α := List Balloon × List Int × Int × Int) (Option.bind (M.s_l1Cur_one (⟨x20577.code, s22410.2.2.2.1, s22410.2.2.2.2⟩ : l1Cur) 3) fun r22890 =>
    bif r22890.1 then some (s22410.1, s22410.2.1, r22890.2.1, r22890.2.2)
    else (Option.bind (M.s_l1Cur_among (⟨x20577.code, r22890.2.1, r22890.2.2⟩ : l1Cur) [0, 1, 2, 5, 16]) fun r22902 =>
    Option.bind (whileM (σ := List Int × Int × Int × Int × List Int) (ρ := List Int × Int × Int × List Int) (fun s23154 =>
      bif decide (s23154.2.1 < (x20585.length : Int)) then (Option.bind (α := Bool × Int × Int) (Option.bind (gxIdx x20585 s23154.2.1) fun y23200 =>
      bif y23200 == 0 then (Option.bind (M.s_l1Has s23154.1 s23154.2.1) fun r23202 =>
      bif !r23202 then (Option.bind (M.s_l1Cur_one (⟨x20577.code, s23154.2.2.1, s23154.2.2.2.1⟩ : l1Cur) 3) fun r23207 =>
      some (r23207.1, r23207.2.1, r23207.2.2))
      else some (false, s23154.2.2.1, s23154.2.2.2.1))
      else some (false, s23154.2.2.1, s23154.2.2.2.1)) fun o23197 =>
      Option.bind (α := List Int × List Int) (bif o23197.1 then (Option.bind (gxApp 8 s23154.2.2.2.2 [s23154.2.1]) fun ap23269 =>
      Option.bind (gxApp 8 s23154.1 [s23154.2.1]) fun ap23286 =>
      some (ap23286, ap23269))
      else some (s23154.1, s23154.2.2.2.2)) fun o23248 =>
      some (.inl (o23248.1, w64 (s23154.2.1 + 1), o23197.2.1, o23197.2.2, o23248.2)))
      else some (.inr (s23154.1, s23154.2.2.1, s23154.2.2.2.1, s23154.2.2.2.2))) gxFuel (s22410.2.1, 0, r22902.2.1, r22902.2.2, ([] : List Int))) fun out23161 =>
    Option.bind (gxApp 40 s22410.1 [(⟨s22410.2.2.1, r22902.1, out23161.2.2.2⟩ : Balloon)]) fun ap23312 =>
    some (ap23312, out23161.1, out23161.2.1, out23161.2.2.1))) fun o22876 =>
    some (.inl (o22876.1, o22876.2.1, w64 (s22410.2.2.1 + 1), o22876.2.2.1, o22876.2.2.2)))
    else some (.inr (s22410.1, s22410.2.2.2.1, s22410.2.2.2.2))) gxFuel (([] : List Balloon), ([] : List Int), 1, x20577.at_, x20577.seed)) fun out22417 =>
  bif (out22417.1.length : Int) == 0 then some (out22417.1, out22417.2.1, out22417.2.2)
  else (Option.bind (M.s_l1Cur_pick (⟨x20577.code, out22417.2.1, out22417.2.2⟩ : l1Cur) (out22417.1.length : Int)) fun r23336 =>
  Option.bind (gxIdx out22417.1 r23336.1) fun y23340 =>
  Option.bind (M.s_l1Cur_pick (⟨x20577.code, r23336.2.1, r23336.2.2⟩ : l1Cur) 40) fun r23355 =>
  bif r23355.1 == 0 then (Option.bind (M.s_l1Cur_among (⟨x20577.code, r23355.2.1, r23355.2.2⟩ : l1Cur) [0, 5, 1]) fun r23367 =>
  Option.bind (gxIdx out22417.1 r23336.1) fun y23373 =>
  some ((out22417.1.set r23336.1.toNat (⟨r23367.1, y23340.Goal, y23340.Gave⟩ : Balloon)), r23367.2.1, r23367.2.2))
  else (bif r23355.1 == 1 then (Option.bind (M.s_l1Cur_among (⟨x20577.code, r23355.2.1, r23355.2.2⟩ : l1Cur) [(-1), 17]) fun r23391 =>
  Option.bind (gxIdx out22417.1 r23336.1) fun y23397 =>
  some ((out22417.1.set r23336.1.toNat (⟨y23340.Guest, r23391.1, y23340.Gave⟩ : Balloon)), r23391.2.1, r23391.2.2))
  else (bif r23355.1 == 2 then (Option.bind (M.s_l1Cur_among (⟨x20577.code, r23355.2.1, r23355.2.2⟩ : l1Cur) [0, 3, 16]) fun r23415 =>
  Option.bind (gxApp 8 y23340.Gave [r23415.1]) fun ap23464 =>
  Option.bind (gxIdx out22417.1 r23336.1) fun y23474 =>
  some ((out22417.1.set r23336.1.toNat (⟨y23340.Guest, y23340.Goal, ap23464⟩ : Balloon)), r23415.2.1, r23415.2.2))
  else (Option.bind (gxIdx out22417.1 r23336.1) fun y23486 =>
  some ((out22417.1.set r23336.1.toNat y23340), r23355.2.1, r23355.2.2)))))
def M.s_l1Cur_guest18 (x23506 : l1Cur) : Option (Int × Int × Int) :=
  Option.bind (M.s_l1Cur_pick x23506 24) fun r23521 =>
  Option.bind (gxSlice [1, 2, 3, 4, 0, 5] 0 (w64 (4 + (w64 (r23521.1.tdiv 11))))) fun ys23525 =>
  Option.bind (M.s_l1Cur_among (⟨x23506.code, r23521.2.1, r23521.2.2⟩ : l1Cur) ys23525) fun r23527 =>
  some (r23527.1, r23527.2.1, r23527.2.2)
def M.s_DrawInflate (x10674 : List Int) : Option ((List Int) × (List Balloon) × Int) :=
  Option.bind (M.s_l1Cur_owners (⟨x10674, 0, 0⟩ : l1Cur)) fun r11805 =>
  Option.bind (M.s_l1Cur_balloons (⟨x10674, r11805.2.1, r11805.2.2⟩ : l1Cur) r11805.1) fun r23496 =>
  Option.bind (M.s_l1Cur_guest18 (⟨x10674, r23496.2.1, r23496.2.2⟩ : l1Cur)) fun r23531 =>
  some (r11805.1, r23496.1, r23531.1)
def M.l_rInts (x23581 : List Int) (x23586 : List Int) : Option (Bool) :=
  bif (x23581.length : Int) != (x23586.length : Int) then some false
  else (Option.bind (whileM (σ := Int) (ρ := (Unit) ⊕ (Bool)) (fun s23604 =>
    bif decide (s23604 < (x23581.length : Int)) then (Option.bind (gxIdx x23581 s23604) fun y23616 =>
    Option.bind (gxIdx x23586 s23604) fun y23617 =>
    bif y23616 != y23617 then some (.inr (.inr false))
    else some (.inl (w64 (s23604 + 1))))
    else some (.inr (.inl ()))) gxFuel 0) fun out23611 => Sum.elim (fun (o23614 : Unit) =>
  some true) (fun r => some r) out23611)
def M.l_rBalloons (x23630 : List Balloon) (x23635 : List Balloon) : Option (Bool) :=
  bif (x23630.length : Int) != (x23635.length : Int) then some false
  else (Option.bind (whileM (σ := Int) (ρ := (Unit) ⊕ (Bool)) (fun s23835 =>
    bif decide (s23835 < (x23630.length : Int)) then (Option.bind (α := Bool) (Option.bind (gxIdx x23630 s23835) fun y23894 =>
    Option.bind (gxIdx x23635 s23835) fun y23902 =>
    bif y23894.Guest != y23902.Guest then some true
    else (Option.bind (gxIdx x23630 s23835) fun y23913 =>
    Option.bind (gxIdx x23635 s23835) fun y23917 =>
    bif y23913.Goal != y23917.Goal then some true
    else (Option.bind (gxIdx x23630 s23835) fun y23924 =>
    Option.bind (gxIdx x23635 s23835) fun y23928 =>
    Option.bind (M.l_rInts y23924.Gave y23928.Gave) fun r23932 =>
    some (!r23932)))) fun o23891 =>
    bif o23891 then some (.inr (.inr false))
    else some (.inl (w64 (s23835 + 1))))
    else some (.inr (.inl ()))) gxFuel 0) fun out23842 => Sum.elim (fun (o23845 : Unit) =>
  some true) (fun r => some r) out23842)
def M.l_FnBalloons (x10659 : List Int) : Option (Bool) :=
  Option.bind (M.l_rBig x10659) fun r10669 =>
  bif r10669 then some true
  else (Option.bind (M.s_DrawInflate x10659) fun r23535 =>
  Option.bind (M.i_Inflate r23535.1 r23535.2.1 r23535.2.2) fun r23550 =>
  Option.bind (M.s_Inflate r23535.1 r23535.2.1 r23535.2.2) fun r23565 =>
  Option.bind (α := Bool) (bif !(r23550.2.2 == r23565.2.2) then some true
  else (Option.bind (M.l_rInts r23550.1 r23565.1) fun r23955 =>
  bif !r23955 then some true
  else (Option.bind (M.l_rBalloons r23550.2.1 r23565.2.1) fun r23960 =>
  some (!r23960)))) fun o23951 =>
  bif o23951 then some false
  else (Option.bind (α := (Unit) ⊕ (Bool)) (bif r23550.2.2 then (Option.bind (M.i_GivenFrames r23535.1 r23535.2.1) fun r24005 =>
  Option.bind (M.i_GivenFrames r23550.1 r23550.2.1) fun r24009 =>
  Option.bind (α := Bool) (bif !r24005.2.2 then some true
  else (bif !r24009.2.2 then some true
  else (bif r24009.1 != (w64 (r24005.1 + 1)) then some true
  else (Option.bind (M.i_AreBalloons r23550.1 r23550.2.1) fun r24026 =>
  some (!r24026))))) fun o24020 =>
  bif o24020 then some (.inr false)
  else some (.inl ()))
  else some (.inl ())) fun out24003 => Sum.elim (fun (o24000 : Unit) =>
  Option.bind (M.i_Deflate r23535.1 r23535.2.1 r23535.2.2) fun r24039 =>
  Option.bind (M.s_Deflate r23535.1 r23535.2.1 r23535.2.2) fun r24054 =>
  Option.bind (α := Bool) (bif !(r24039.2.2 == r24054.2.2) then some true
  else (Option.bind (M.l_rInts r24039.1 r24054.1) fun r24096 =>
  bif !r24096 then some true
  else (Option.bind (M.l_rBalloons r24039.2.1 r24054.2.1) fun r24101 =>
  bif !r24101 then some true
  else (bif r23550.2.2 then (bif r24039.2.2 then some true
  else (bif r24039.2.2 then (Option.bind (M.i_AreBalloons r24039.1 r24039.2.1) fun r24109 =>
  some (!r24109))
  else some false))
  else (bif r24039.2.2 then (Option.bind (M.i_AreBalloons r24039.1 r24039.2.1) fun r24114 =>
  some (!r24114))
  else some false))))) fun o24092 =>
  bif o24092 then some false
  else (Option.bind (M.i_TakeGiven r23535.1 r23535.2.1 r23535.2.2) fun r24123 =>
  Option.bind (M.s_TakeGiven r23535.1 r23535.2.1 r23535.2.2) fun r24138 =>
  Option.bind (α := Bool) (bif !(r24123.2.2.2 == r24138.2.2.2) then some true
  else (bif r24123.2.2.1 != r24138.2.2.1 then some true
  else (Option.bind (M.l_rInts r24123.1 r24138.1) fun r24169 =>
  bif !r24169 then some true
  else (Option.bind (M.l_rBalloons r24123.2.1 r24138.2.1) fun r24174 =>
  some (!r24174))))) fun o24164 =>
  bif o24164 then some false
  else (Option.bind (α := (Unit) ⊕ (Bool)) (bif r24123.2.2.2 then (Option.bind (M.i_GivenFrames r23535.1 r23535.2.1) fun r24223 =>
  Option.bind (M.i_GivenFrames r24123.1 r24123.2.1) fun r24227 =>
  Option.bind (α := Bool) (bif !r24223.2.2 then some true
  else (bif !r24227.2.2 then some true
  else (bif r24227.1 != (w64 (r24223.1 - 1)) then some true
  else (Option.bind (gxIdx r24123.1 r24123.2.2.1) fun y24246 =>
  bif y24246 != r23535.2.2 then some true
  else (Option.bind (M.i_AreBalloons r24123.1 r24123.2.1) fun r24248 =>
  some (!r24248)))))) fun o24240 =>
  bif o24240 then some (.inr false)
  else some (.inl ()))
  else some (.inl ())) fun out24221 => Sum.elim (fun (o24218 : Unit) =>
  Option.bind (M.i_AreBalloons r23535.1 r23535.2.1) fun r24261 =>
  Option.bind (M.s_AreBalloons r23535.1 r23535.2.1) fun r24265 =>
  some (r24261 == r24265)) (fun r => some r) out24221))) (fun r => some r) out24003))
def M.s_DrawSettleGuest (x24279 : List Int) : Option ((List Int) × (List Balloon) × Int) :=
  Option.bind (M.s_DrawInflate x24279) fun r24295 =>
  some (r24295.1, r24295.2.1, r24295.2.2)
def M.s_DrawShareGoals (x24513 : List Int) : Option ((List Int) × (List Balloon) × Int) :=
  Option.bind (M.s_l1Cur_owners (⟨x24513, 0, 0⟩ : l1Cur)) fun r24534 =>
  Option.bind (M.s_l1Cur_balloons (⟨x24513, r24534.2.1, r24534.2.2⟩ : l1Cur) r24534.1) fun r24543 =>
  Option.bind (M.s_l1Cur_pick (⟨x24513, r24543.2.1, r24543.2.2⟩ : l1Cur) 24) fun r24560 =>
  Option.bind (gxSlice [0, 1, 2, 4, 16, (-1), 17] 0 (w64 (5 + (w64 (r24560.1.tdiv 11))))) fun ys24564 =>
  Option.bind (M.s_l1Cur_among (⟨x24513, r24560.2.1, r24560.2.2⟩ : l1Cur) ys24564) fun r24566 =>
  some (r24534.1, r24543.1, r24566.1)
def M.s_DrawSetGoal (x24675 : List Int) : Option ((List Int) × (List Balloon) × Int × Int) :=
  Option.bind (M.s_l1Cur_owners (⟨x24675, 0, 0⟩ : l1Cur)) fun r24696 =>
  Option.bind (M.s_l1Cur_balloons (⟨x24675, r24696.2.1, r24696.2.2⟩ : l1Cur) r24696.1) fun r24705 =>
  Option.bind (M.s_l1Cur_guest18 (⟨x24675, r24705.2.1, r24705.2.2⟩ : l1Cur)) fun r24715 =>
  Option.bind (M.s_l1Cur_pick (⟨x24675, r24715.2.1, r24715.2.2⟩ : l1Cur) 24) fun r24726 =>
  Option.bind (gxSlice [0, 1, 3, 16, (-1), 17] 0 (w64 (4 + (w64 (r24726.1.tdiv 11))))) fun ys24730 =>
  Option.bind (M.s_l1Cur_among (⟨x24675, r24726.2.1, r24726.2.2⟩ : l1Cur) ys24730) fun r24732 =>
  some (r24696.1, r24705.1, r24715.1, r24732.1)
def M.s_DrawAreBalloons (x24925 : List Int) : Option ((List Int) × (List Balloon)) :=
  Option.bind (M.s_l1Cur_owners (⟨x24925, 0, 0⟩ : l1Cur)) fun r24946 =>
  Option.bind (M.s_l1Cur_balloons (⟨x24925, r24946.2.1, r24946.2.2⟩ : l1Cur) r24946.1) fun r24955 =>
  some (r24946.1, r24955.1)
def M.s_DrawGivenFrames (x24909 : List Int) : Option ((List Int) × (List Balloon)) :=
  Option.bind (M.s_DrawAreBalloons x24909) fun r24965 =>
  some (r24965.1, r24965.2)
def M.l_FnBalloonGoals (x24269 : List Int) : Option (Bool) :=
  Option.bind (M.l_rBig x24269) fun r24274 =>
  bif r24274 then some true
  else (Option.bind (M.s_DrawSettleGuest x24269) fun r24310 =>
  Option.bind (M.i_SettleGuest r24310.1 r24310.2.1 r24310.2.2) fun r24325 =>
  Option.bind (M.s_SettleGuest r24310.1 r24310.2.1 r24310.2.2) fun r24340 =>
  Option.bind (α := Bool) (bif !(r24325.2.2.2 == r24340.2.2.2) then some true
  else (bif r24325.2.2.1 != r24340.2.2.1 then some true
  else (Option.bind (M.l_rInts r24325.1 r24340.1) fun r24371 =>
  bif !r24371 then some true
  else (Option.bind (M.l_rBalloons r24325.2.1 r24340.2.1) fun r24376 =>
  some (!r24376))))) fun o24366 =>
  bif o24366 then some false
  else (Option.bind (α := (Unit) ⊕ (Bool)) (bif r24325.2.2.2 then (Option.bind (M.i_Inflate r24325.1 r24325.2.1 r24310.2.2) fun r24450 =>
  Option.bind (M.i_Deflate r24325.1 r24325.2.1 r24310.2.2) fun r24465 =>
  Option.bind (M.i_SettleGuest r24325.1 r24325.2.1 r24310.2.2) fun r24480 =>
  Option.bind (α := Bool) (bif r24450.2.2 then some true
  else (bif r24465.2.2 then some true
  else (bif !r24480.2.2.2 then some true
  else some (r24480.2.2.1 != 0)))) fun o24498 =>
  bif o24498 then some (.inr false)
  else some (.inl ()))
  else some (.inl ())) fun out24448 => Sum.elim (fun (o24445 : Unit) =>
  Option.bind (M.s_DrawShareGoals x24269) fun r24570 =>
  Option.bind (M.i_ShareGoals r24570.1 r24570.2.1 r24570.2.2) fun r24585 =>
  Option.bind (M.s_ShareGoals r24570.1 r24570.2.1 r24570.2.2) fun r24595 =>
  Option.bind (α := Bool) (bif !(r24585.2 == r24595.2) then some true
  else (Option.bind (M.l_rBalloons r24585.1 r24595.1) fun r24614 =>
  some (!r24614))) fun o24610 =>
  bif o24610 then some false
  else (Option.bind (whileM (σ := Int × Int) (ρ := Int) (fun s24641 =>
    bif decide (s24641.2 < (r24585.1.length : Int)) then (Option.bind (gxIdx r24585.1 s24641.2) fun y24653 =>
    some (.inl (w64 (s24641.1 + y24653.Goal), w64 (s24641.2 + 1))))
    else some (.inr s24641.1)) gxFuel (0, 0)) fun out24648 =>
  Option.bind (α := Bool) (bif r24585.2 then some (out24648 != r24570.2.2)
  else some false) fun o24666 =>
  bif o24666 then some false
  else (Option.bind (M.s_DrawSetGoal x24269) fun r24736 =>
  Option.bind (M.i_SetGoal r24736.1 r24736.2.1 r24736.2.2.1 r24736.2.2.2) fun r24751 =>
  Option.bind (M.s_SetGoal r24736.1 r24736.2.1 r24736.2.2.1 r24736.2.2.2) fun r24761 =>
  Option.bind (α := Bool) (bif !(r24751.2 == r24761.2) then some true
  else (Option.bind (M.l_rBalloons r24751.1 r24761.1) fun r24780 =>
  some (!r24780))) fun o24776 =>
  bif o24776 then some false
  else (Option.bind (whileM (σ := Int) (ρ := (Unit) ⊕ (Bool)) (fun s24859 =>
    bif decide (s24859 < (r24751.1.length : Int)) then (Option.bind (α := Bool) (Option.bind (gxIdx r24751.1 s24859) fun y24887 =>
    bif y24887.Guest == r24736.2.2.1 then (Option.bind (gxIdx r24751.1 s24859) fun y24896 =>
    some (y24896.Goal != r24736.2.2.2))
    else some false) fun o24884 =>
    bif o24884 then some (.inr (.inr false))
    else some (.inl (w64 (s24859 + 1))))
    else some (.inr (.inl ()))) gxFuel 0) fun out24866 => Sum.elim (fun (o24869 : Unit) =>
  Option.bind (M.s_DrawGivenFrames x24269) fun r24980 =>
  Option.bind (M.i_GivenFrames r24980.1 r24980.2) fun r24995 =>
  Option.bind (M.s_GivenFrames r24980.1 r24980.2) fun r24999 =>
  Option.bind (α := Bool) (bif r24995.1 == r24999.1 then (bif r24995.2.1 == r24999.2.1 then some (r24995.2.2 == r24999.2.2)
  else some false)
  else some false) fun o25005 =>
  some o25005) (fun r => some r) out24866)))) (fun r => some r) out24448))
end Go.Proofs.Ytlfligjpmodefaa
