/- The models of the functions, printed by program: what each computes, in plain Lean. -/
import Derived.Test.YtlfligjpmodefaaGxI
set_option linter.unusedVariables false
set_option maxRecDepth 100000
set_option maxHeartbeats 4000000
namespace Go.Proofs.Ytlfligjpmodefaa
open Go.Gx
structure Balloon where
  Guest : Int
  Goal : Int
  Gave : List Int
def deepBalloon : Deep Balloon := ⟨⟨fun z => [.int .i64 z.1.Guest, .int .i64 z.1.Goal, .slice ((z.2 0).1) z.1.Gave.length ((z.2 0).2)], 3, fun _ => rfl, by simp [Value.oneCell']⟩, fun z => [⟨Int, encI, z.1.Gave, (z.2 0).1, (z.2 0).2⟩]⟩
structure l1Cur where
  code : List Int
  at_ : Int
  seed : Int
def M.l_szIntS (x38 : List Int) (x43 : Int) : Option (Int) :=
  bif decide ((w64 (x43 - (x38.length : Int))) < 0) then some (-1)
  else some (w64 (x43 - (x38.length : Int)))
def M.l_szBalloon (x28 : Balloon) (x33 : Int) : Option (Int) :=
  Option.bind (M.l_szIntS x28.Gave x33) fun r45 =>
  bif decide (r45 < 0) then some (-1)
  else some r45
def M.l_szBalloonS (x12 : List Balloon) (x17 : Int) : Option (Int) :=
  bif decide ((w64 (x17 - (x12.length : Int))) < 0) then some (-1)
  else (Option.bind (whileM (σ := Int × Int) (ρ := (Int) ⊕ (Int)) (fun s69 =>
    bif decide (s69.2 < (x12.length : Int)) then (Option.bind (gxIdx x12 s69.2) fun y81 =>
    Option.bind (M.l_szBalloon y81 s69.1) fun r89 =>
    bif decide (r89 < 0) then some (.inr (.inr (-1)))
    else some (.inl (r89, w64 (s69.2 + 1))))
    else some (.inr (.inl s69.1))) gxFuel (w64 (x17 - (x12.length : Int)), 0)) fun out76 => Sum.elim (fun (o79 : Int) =>
  some o79) (fun r => some r) out76)
def M.l_toIntS (x103 : List Int) : Option ((List Int)) :=
  Option.bind (gxMake 8 (x103.length : Int) (0 : Int)) fun mk113 =>
  Option.bind (whileM (σ := Int × List Int) (ρ := List Int) (fun s137 =>
    bif decide (s137.1 < (x103.length : Int)) then (Option.bind (gxIdx x103 s137.1) fun y153 =>
    Option.bind (gxIdx s137.2 s137.1) fun y154 =>
    some (.inl (w64 (s137.1 + 1), (s137.2.set s137.1.toNat y153))))
    else some (.inr s137.2)) gxFuel (0, mk113)) fun out144 =>
  some out144
def M.l_toBalloon (x203 : Balloon) : Option (Balloon) :=
  Option.bind (M.l_toIntS x203.Gave) fun r230 =>
  some (⟨x203.Guest, x203.Goal, r230⟩ : Balloon)
def M.l_toBalloonS (x172 : List Balloon) : Option ((List Balloon)) :=
  Option.bind (gxMake 40 (x172.length : Int) ((⟨0, 0, []⟩ : Balloon) : Balloon)) fun mk184 =>
  Option.bind (whileM (σ := Int × List Balloon) (ρ := List Balloon) (fun s317 =>
    bif decide (s317.1 < (x172.length : Int)) then (Option.bind (gxIdx x172 s317.1) fun y335 =>
    Option.bind (M.l_toBalloon y335) fun r343 =>
    Option.bind (gxIdx s317.2 s317.1) fun y352 =>
    some (.inl (w64 (s317.1 + 1), (s317.2.set s317.1.toNat r343))))
    else some (.inr s317.2)) gxFuel (0, mk184)) fun out324 =>
  some out324
def M.s_l1In (x415 : Int) (x416 : Int) (x417 : Int) : Option (Bool) :=
  Option.bind (α := Bool) (bif decide (x415 ≥ x416) then some (decide (x415 ≤ x417))
  else some false) fun o419 =>
  some o419
def M.s_l2Good (x408 : List Int) : Option (Bool) :=
  Option.bind (whileM (σ := Int) (ρ := (Unit) ⊕ (Bool)) (fun s439 =>
    bif decide (s439 < (x408.length : Int)) then (Option.bind (gxIdx x408 s439) fun y451 =>
    Option.bind (M.s_l1In y451 0 4) fun r452 =>
    bif !r452 then some (.inr (.inr false))
    else some (.inl (w64 (s439 + 1))))
    else some (.inr (.inl ()))) gxFuel 0) fun out446 => Sum.elim (fun (o449 : Unit) =>
  Option.bind (M.s_l1In (x408.length : Int) 1 16) fun r461 =>
  some r461) (fun r => some r) out446
def M.s_l1Rising (x515 : List Int) (x520 : Int) (x521 : Int) : Option (Bool) :=
  Option.bind (whileM (σ := Int) (ρ := (Unit) ⊕ (Bool)) (fun s600 =>
    bif decide (s600 < (x515.length : Int)) then (Option.bind (α := Bool) (Option.bind (gxIdx x515 s600) fun y630 =>
    Option.bind (M.s_l1In y630 x520 x521) fun r631 =>
    bif !r631 then some true
    else (bif decide (s600 > 0) then (Option.bind (gxIdx x515 (w64 (s600 - 1))) fun y639 =>
    Option.bind (gxIdx x515 s600) fun y640 =>
    some (decide (y639 ≥ y640)))
    else some false)) fun o627 =>
    bif o627 then some (.inr (.inr false))
    else some (.inl (w64 (s600 + 1))))
    else some (.inr (.inl ()))) gxFuel 0) fun out607 => Sum.elim (fun (o610 : Unit) =>
  some true) (fun r => some r) out607
def M.s_l1Has (x713 : List Int) (x718 : Int) : Option (Bool) :=
  Option.bind (whileM (σ := Int) (ρ := (Unit) ⊕ (Bool)) (fun s725 =>
    bif decide (s725 < (x713.length : Int)) then (Option.bind (gxIdx x713 s725) fun y737 =>
    bif y737 == x718 then some (.inr (.inr true))
    else some (.inl (w64 (s725 + 1))))
    else some (.inr (.inl ()))) gxFuel 0) fun out732 => Sum.elim (fun (o735 : Unit) =>
  some false) (fun r => some r) out732
def M.s_l18Good (x398 : List Int) (x403 : List Balloon) : Option (Bool) :=
  Option.bind (M.s_l2Good x398) fun r465 =>
  bif !r465 then some false
  else (Option.bind (whileM (σ := List Int × Int) (ρ := (Unit) ⊕ (Bool)) (fun s1031 =>
    bif decide (s1031.2 < (x403.length : Int)) then (Option.bind (gxIdx x403 s1031.2) fun y1048 =>
    Option.bind (α := Bool) (Option.bind (M.s_l1In y1048.Guest 1 4) fun r1100 =>
    bif !r1100 then some true
    else (Option.bind (M.s_l1In y1048.Goal 0 16) fun r1107 =>
    bif !r1107 then some true
    else (bif decide (s1031.2 > 0) then (Option.bind (gxIdx x403 (w64 (s1031.2 - 1))) fun y1115 =>
    bif decide (y1115.Guest ≥ y1048.Guest) then some true
    else (Option.bind (M.s_l1Rising y1048.Gave 0 (w64 ((x398.length : Int) - 1))) fun r1122 =>
    some (!r1122)))
    else (Option.bind (M.s_l1Rising y1048.Gave 0 (w64 ((x398.length : Int) - 1))) fun r1128 =>
    some (!r1128))))) fun o1097 =>
    bif o1097 then some (.inr (.inr false))
    else (Option.bind (whileM (σ := Int) (ρ := (Unit) ⊕ (Bool)) (fun s1189 =>
      bif decide (s1189 < (y1048.Gave.length : Int)) then (Option.bind (α := Bool) (Option.bind (gxIdx y1048.Gave s1189) fun y1212 =>
      Option.bind (gxIdx x398 y1212) fun y1213 =>
      bif y1213 != 0 then some true
      else (Option.bind (gxIdx y1048.Gave s1189) fun y1215 =>
      Option.bind (M.s_l1Has s1031.1 y1215) fun r1216 =>
      some r1216)) fun o1209 =>
      bif o1209 then some (.inr (.inr false))
      else some (.inl (w64 (s1189 + 1))))
      else some (.inr (.inl ()))) gxFuel 0) fun out1196 => Sum.elim (fun (o1199 : Unit) =>
    Option.bind (gxApp 8 s1031.1 y1048.Gave) fun ap1229 =>
    some (.inl (ap1229, w64 (s1031.2 + 1)))) (fun r => some (.inr (.inr r))) out1196))
    else some (.inr (.inl ()))) gxFuel (([] : List Int), 0)) fun out1038 => Sum.elim (fun (o1046 : Unit) =>
  some true) (fun r => some r) out1038)
def M.s_AreBalloons (x388 : List Int) (x393 : List Balloon) : Option (Bool) :=
  Option.bind (M.s_l18Good x388 x393) fun r1241 =>
  some r1241
def M.i_inside (x1283 : Int) (x1284 : Int) (x1285 : Int) : Option (Bool) :=
  Option.bind (α := Bool) (bif decide (x1283 ≥ x1284) then some (decide (x1283 ≤ x1285))
  else some false) fun o1287 =>
  some o1287
def M.i_AreOwners_1 (x1312 : Int) : Option (Bool) :=
  Option.bind (M.i_inside x1312 0 4) fun r1313 =>
  some (!r1313)
def M.slices_IndexFunc_91__i_AreOwners_1 (x1305 : List Int) : Option (Int) :=
  Option.bind (whileM (σ := Int) (ρ := (Unit) ⊕ (Int)) (fun s1329 =>
    bif decide (s1329 < (x1305.length : Int)) then (Option.bind (gxIdx x1305 s1329) fun y1341 =>
    Option.bind (M.i_AreOwners_1 y1341) fun r1342 =>
    bif r1342 then some (.inr (.inr s1329))
    else some (.inl (w64 (s1329 + 1))))
    else some (.inr (.inl ()))) gxFuel 0) fun out1336 => Sum.elim (fun (o1339 : Unit) =>
  some (-1)) (fun r => some r) out1336
def M.slices_ContainsFunc_83__i_AreOwners_1 (x1300 : List Int) : Option (Bool) :=
  Option.bind (M.slices_IndexFunc_91__i_AreOwners_1 x1300) fun r1351 =>
  some (decide (r1351 ≥ 0))
def M.i_AreOwners (x1278 : List Int) : Option (Bool) :=
  Option.bind (α := Bool) (Option.bind (M.i_inside (x1278.length : Int) 1 16) fun r1362 =>
  bif r1362 then (Option.bind (M.slices_ContainsFunc_83__i_AreOwners_1 x1278) fun r1367 =>
  some (!r1367))
  else some false) fun o1359 =>
  some o1359
def M.i_isGuest (x1403 : Int) : Option (Bool) :=
  Option.bind (M.i_inside x1403 1 4) fun r1404 =>
  some r1404
def M.i_isGoal (x1415 : Int) : Option (Bool) :=
  Option.bind (M.i_inside x1415 0 16) fun r1416 =>
  some r1416
def M.i_ascending (x1427 : List Int) (x1432 : Int) (x1433 : Int) : Option (Bool) :=
  Option.bind (whileM (σ := Int) (ρ := (Unit) ⊕ (Bool)) (fun s1482 =>
    bif decide (s1482 < (x1427.length : Int)) then (Option.bind (gxIdx x1427 s1482) fun y1494 =>
    Option.bind (α := Bool) (Option.bind (M.i_inside y1494 x1432 x1433) fun r1505 =>
    bif !r1505 then some true
    else (bif decide (s1482 > 0) then (Option.bind (gxIdx x1427 (w64 (s1482 - 1))) fun y1511 =>
    some (decide (y1511 ≥ y1494)))
    else some false)) fun o1502 =>
    bif o1502 then some (.inr (.inr false))
    else some (.inl (w64 (s1482 + 1))))
    else some (.inr (.inl ()))) gxFuel 0) fun out1489 => Sum.elim (fun (o1492 : Unit) =>
  some true) (fun r => some r) out1489
def M.slices_Index_63 (x1585 : List Int) (x1590 : Int) : Option (Int) :=
  Option.bind (whileM (σ := Int) (ρ := (Unit) ⊕ (Int)) (fun s1597 =>
    bif decide (s1597 < (x1585.length : Int)) then (Option.bind (gxIdx x1585 s1597) fun y1609 =>
    bif x1590 == y1609 then some (.inr (.inr s1597))
    else some (.inl (w64 (s1597 + 1))))
    else some (.inr (.inl ()))) gxFuel 0) fun out1604 => Sum.elim (fun (o1607 : Unit) =>
  some (-1)) (fun r => some r) out1604
def M.slices_Contains_53 (x1579 : List Int) (x1584 : Int) : Option (Bool) :=
  Option.bind (M.slices_Index_63 x1579 x1584) fun r1615 =>
  some (decide (r1615 ≥ 0))
def M.i_AreBalloons (x1268 : List Int) (x1273 : List Balloon) : Option (Bool) :=
  Option.bind (M.i_AreOwners x1268) fun r1375 =>
  bif !r1375 then some false
  else (Option.bind (whileM (σ := List Int × Int) (ρ := (Unit) ⊕ (Bool)) (fun s1986 =>
    bif decide (s1986.2 < (x1273.length : Int)) then (Option.bind (gxIdx x1273 s1986.2) fun y2003 =>
    Option.bind (α := Bool) (Option.bind (M.i_isGuest y2003.Guest) fun r2051 =>
    bif !r2051 then some true
    else (Option.bind (M.i_isGoal y2003.Goal) fun r2058 =>
    bif !r2058 then some true
    else (Option.bind (M.i_ascending y2003.Gave 0 (w64 ((x1268.length : Int) - 1))) fun r2065 =>
    bif !r2065 then some true
    else (bif decide (s1986.2 > 0) then (Option.bind (gxIdx x1273 (w64 (s1986.2 - 1))) fun y2073 =>
    some (decide (y2073.Guest ≥ y2003.Guest)))
    else some false)))) fun o2048 =>
    bif o2048 then some (.inr (.inr false))
    else (Option.bind (whileM (σ := List Int × Int) (ρ := (List Int) ⊕ (Bool)) (fun s2165 =>
      bif decide (s2165.2 < (y2003.Gave.length : Int)) then (Option.bind (gxIdx y2003.Gave s2165.2) fun y2187 =>
      Option.bind (α := Bool) (Option.bind (gxIdx x1268 y2187) fun y2197 =>
      bif y2197 != 0 then some true
      else (Option.bind (M.slices_Contains_53 s2165.1 y2187) fun r2199 =>
      some r2199)) fun o2194 =>
      bif o2194 then some (.inr (.inr false))
      else (Option.bind (gxApp 8 s2165.1 [y2187]) fun ap2215 =>
      some (.inl (ap2215, w64 (s2165.2 + 1)))))
      else some (.inr (.inl s2165.1))) gxFuel (s1986.1, 0)) fun out2172 => Sum.elim (fun (o2180 : List Int) =>
    some (.inl (o2180, w64 (s1986.2 + 1)))) (fun r => some (.inr (.inr r))) out2172))
    else some (.inr (.inl ()))) gxFuel (([] : List Int), 0)) fun out1993 => Sum.elim (fun (o2001 : Unit) =>
  some true) (fun r => some r) out1993)
def M.l_eqIntS (x2245 : List Int) (x2250 : List Int) : Option (Bool) :=
  bif (x2245.length : Int) != (x2250.length : Int) then some false
  else (Option.bind (whileM (σ := Int) (ρ := (Unit) ⊕ (Bool)) (fun s2268 =>
    bif decide (s2268 < (x2245.length : Int)) then (Option.bind (gxIdx x2245 s2268) fun y2280 =>
    Option.bind (gxIdx x2250 s2268) fun y2281 =>
    bif y2280 != y2281 then some (.inr (.inr false))
    else some (.inl (w64 (s2268 + 1))))
    else some (.inr (.inl ()))) gxFuel 0) fun out2275 => Sum.elim (fun (o2278 : Unit) =>
  some true) (fun r => some r) out2275)
def M.l_eqBalloon (x2332 : Balloon) (x2337 : Balloon) : Option (Bool) :=
  bif x2332.Guest != x2337.Guest then some false
  else (bif x2332.Goal != x2337.Goal then some false
  else (Option.bind (M.l_eqIntS x2332.Gave x2337.Gave) fun r2352 =>
  bif !r2352 then some false
  else some true))
def M.l_eqBalloonS (x2304 : List Balloon) (x2309 : List Balloon) : Option (Bool) :=
  bif (x2304.length : Int) != (x2309.length : Int) then some false
  else (Option.bind (whileM (σ := Int) (ρ := (Unit) ⊕ (Bool)) (fun s2388 =>
    bif decide (s2388 < (x2304.length : Int)) then (Option.bind (gxIdx x2304 s2388) fun y2400 =>
    Option.bind (gxIdx x2309 s2388) fun y2408 =>
    Option.bind (M.l_eqBalloon y2400 y2408) fun r2416 =>
    bif !r2416 then some (.inr (.inr false))
    else some (.inl (w64 (s2388 + 1))))
    else some (.inr (.inl ()))) gxFuel 0) fun out2395 => Sum.elim (fun (o2398 : Unit) =>
  some true) (fun r => some r) out2395)
def M.l_FnExactAreBalloons (x1 : List Int) (x6 : List Balloon) : Option (Bool) :=
  bif decide ((x1.length : Int) > 1048576) then some true
  else (Option.bind (M.l_szBalloonS x6 1048576) fun r98 =>
  bif decide (r98 < 0) then some true
  else (Option.bind (M.l_toIntS x1) fun r163 =>
  Option.bind (M.l_toBalloonS x6) fun r378 =>
  Option.bind (M.s_AreBalloons r163 r378) fun r1245 =>
  Option.bind (M.l_toIntS x1) fun r1249 =>
  Option.bind (M.l_toBalloonS x6) fun r1258 =>
  Option.bind (M.i_AreBalloons r1249 r1258) fun r2231 =>
  bif !(r2231 == r1245) then some false
  else (Option.bind (M.l_toIntS x1) fun r2236 =>
  Option.bind (M.l_eqIntS r1249 r2236) fun r2289 =>
  bif !r2289 then some false
  else (Option.bind (M.l_toBalloonS x6) fun r2294 =>
  Option.bind (M.l_eqBalloonS r1258 r2294) fun r2427 =>
  bif !r2427 then some false
  else some true))))
def M.s_l1Most (x2499 : Int) (x2500 : Int) : Option (Int) :=
  bif decide (x2499 > x2500) then some x2499
  else some x2500
def M.s_GivenFrames (x2467 : List Int) (x2472 : List Balloon) : Option (Int × Int × Bool) :=
  Option.bind (M.s_l18Good x2467 x2472) fun r2477 =>
  bif !r2477 then some (0, 0, false)
  else (Option.bind (whileM (σ := Int × Int × Int) (ρ := Int × Int) (fun s2531 =>
    bif decide (s2531.2.2 < (x2472.length : Int)) then (Option.bind (gxIdx x2472 s2531.2.2) fun y2543 =>
    Option.bind (gxIdx x2472 s2531.2.2) fun y2551 =>
    Option.bind (gxIdx x2472 s2531.2.2) fun y2555 =>
    Option.bind (M.s_l1Most 0 (w64 (y2551.Goal - (y2555.Gave.length : Int)))) fun r2559 =>
    some (.inl (w64 (s2531.1 + (y2543.Gave.length : Int)), w64 (s2531.2.1 + r2559), w64 (s2531.2.2 + 1))))
    else some (.inr (s2531.1, s2531.2.1))) gxFuel (0, 0, 0)) fun out2538 =>
  some (out2538.1, out2538.2, true))
def M.i_GivenFrames (x2592 : List Int) (x2597 : List Balloon) : Option (Int × Int × Bool) :=
  Option.bind (M.i_AreBalloons x2592 x2597) fun r2602 =>
  bif !r2602 then some (0, 0, false)
  else (Option.bind (whileM (σ := Int × Int × Int) (ρ := Int × Int) (fun s2639 =>
    bif decide (s2639.2.2 < (x2597.length : Int)) then (Option.bind (gxIdx x2597 s2639.2.2) fun y2651 =>
    some (.inl (w64 (s2639.1 + (y2651.Gave.length : Int)), w64 (s2639.2.1 + (gxMax (w64 (y2651.Goal - (y2651.Gave.length : Int))) 0)), w64 (s2639.2.2 + 1))))
    else some (.inr (s2639.1, s2639.2.1))) gxFuel (0, 0, 0)) fun out2646 =>
  some (out2646.1, out2646.2, true))
def M.l_FnExactGivenFrames (x2432 : List Int) (x2437 : List Balloon) : Option (Bool) :=
  bif decide ((x2432.length : Int) > 1048576) then some true
  else (Option.bind (M.l_szBalloonS x2437 1048576) fun r2443 =>
  bif decide (r2443 < 0) then some true
  else (Option.bind (M.l_toIntS x2432) fun r2448 =>
  Option.bind (M.l_toBalloonS x2437) fun r2457 =>
  Option.bind (M.s_GivenFrames r2448 r2457) fun r2569 =>
  Option.bind (M.l_toIntS x2432) fun r2573 =>
  Option.bind (M.l_toBalloonS x2437) fun r2582 =>
  Option.bind (M.i_GivenFrames r2573 r2582) fun r2670 =>
  Option.bind (α := Bool) (bif r2670.1 != r2569.1 then some true
  else (bif r2670.2.1 != r2569.2.1 then some true
  else some (!(r2670.2.2 == r2569.2.2)))) fun o2676 =>
  bif o2676 then some false
  else (Option.bind (M.l_toIntS x2432) fun r2686 =>
  Option.bind (M.l_eqIntS r2573 r2686) fun r2695 =>
  bif !r2695 then some false
  else (Option.bind (M.l_toBalloonS x2437) fun r2700 =>
  Option.bind (M.l_eqBalloonS r2582 r2700) fun r2710 =>
  bif !r2710 then some false
  else some true))))
def M.s_l18Find (x2770 : List Balloon) (x2775 : Int) : Option (Int) :=
  Option.bind (whileM (σ := Int) (ρ := (Unit) ⊕ (Int)) (fun s2796 =>
    bif decide (s2796 < (x2770.length : Int)) then (Option.bind (gxIdx x2770 s2796) fun y2808 =>
    bif y2808.Guest == x2775 then some (.inr (.inr s2796))
    else some (.inl (w64 (s2796 + 1))))
    else some (.inr (.inl ()))) gxFuel 0) fun out2803 => Sum.elim (fun (o2806 : Unit) =>
  some (-1)) (fun r => some r) out2803
def M.s_l1Own (x2916 : List Int) : Option ((List Int)) :=
  Option.bind (gxApp 8 ([] : List Int) x2916) fun ap2933 =>
  some ap2933
def M.s_l18With (x2870 : List Balloon) (x2875 : Int) (x2876 : Int) (x2877 : List Int) : Option ((List Balloon)) :=
  Option.bind (whileM (σ := List Balloon × Int) (ρ := List Balloon) (fun s3272 =>
    bif decide (s3272.2 < (x2870.length : Int)) then (Option.bind (gxIdx x2870 s3272.2) fun y3298 =>
    Option.bind (gxIdx x2870 s3272.2) fun y3306 =>
    Option.bind (gxIdx x2870 s3272.2) fun y3310 =>
    Option.bind (M.s_l1Own y3310.Gave) fun r3314 =>
    Option.bind (α := Int × List Int) (bif s3272.2 == x2875 then (Option.bind (M.s_l1Own x2877) fun r3427 =>
    some (x2876, r3427))
    else some (y3306.Goal, r3314)) fun o3416 =>
    Option.bind (gxApp 40 s3272.1 [(⟨y3298.Guest, o3416.1, o3416.2⟩ : Balloon)]) fun ap3452 =>
    some (.inl (ap3452, w64 (s3272.2 + 1))))
    else some (.inr s3272.1)) gxFuel (([] : List Balloon), 0)) fun out3279 =>
  some out3279
def M.s_SetGoal (x2752 : List Int) (x2757 : List Balloon) (x2762 : Int) (x2763 : Int) : Option ((List Balloon) × Bool) :=
  Option.bind (M.s_l18Find x2757 x2762) fun r2821 =>
  Option.bind (α := Bool) (Option.bind (M.s_l18Good x2752 x2757) fun r2838 =>
  bif !r2838 then some true
  else (bif decide (r2821 < 0) then some true
  else (Option.bind (M.s_l1In x2763 0 16) fun r2844 =>
  some (!r2844)))) fun o2835 =>
  bif o2835 then some (([] : List Balloon), false)
  else (Option.bind (gxIdx x2757 r2821) fun y2862 =>
  Option.bind (M.s_l18With x2757 r2821 x2763 y2862.Gave) fun r3471 =>
  some (r3471, true))
def M.i_balloonOf_1 (x3561 : Balloon) (x3566 : Int) : Option (Bool) :=
  some (x3561.Guest == x3566)
def M.slices_IndexFunc_85__i_balloonOf_1 (x3543 : List Balloon) (x3548 : Int) : Option (Int) :=
  Option.bind (whileM (σ := Int) (ρ := (Unit) ⊕ (Int)) (fun s3593 =>
    bif decide (s3593 < (x3543.length : Int)) then (Option.bind (gxIdx x3543 s3593) fun y3605 =>
    Option.bind (M.i_balloonOf_1 y3605 x3548) fun r3613 =>
    bif r3613 then some (.inr (.inr s3593))
    else some (.inl (w64 (s3593 + 1))))
    else some (.inr (.inl ()))) gxFuel 0) fun out3600 => Sum.elim (fun (o3603 : Unit) =>
  some (-1)) (fun r => some r) out3600
def M.i_balloonOf (x3528 : List Int) (x3533 : List Balloon) (x3538 : Int) : Option (Int × Bool) :=
  Option.bind (M.slices_IndexFunc_85__i_balloonOf_1 x3533 x3538) fun r3622 =>
  Option.bind (α := Int × Bool) (Option.bind (M.i_AreBalloons x3528 x3533) fun r3634 =>
  bif r3634 then some (r3622, decide (r3622 ≥ 0))
  else some (r3622, false)) fun o3631 =>
  some (o3631.1, o3631.2)
def M.i_copyInts (x3702 : List Int) : Option ((List Int)) :=
  Option.bind (gxApp 8 ([] : List Int) x3702) fun ap3719 =>
  some ap3719
def M.i_newBalloons (x3666 : List Balloon) : Option ((List Balloon)) :=
  Option.bind (whileM (σ := List Balloon × Int) (ρ := List Balloon) (fun s3821 =>
    bif decide (s3821.2 < (x3666.length : Int)) then (Option.bind (gxIdx x3666 s3821.2) fun y3845 =>
    Option.bind (M.i_copyInts y3845.Gave) fun r3860 =>
    Option.bind (gxApp 40 s3821.1 [(⟨y3845.Guest, y3845.Goal, r3860⟩ : Balloon)]) fun ap3881 =>
    some (.inl (ap3881, w64 (s3821.2 + 1))))
    else some (.inr s3821.1)) gxFuel (([] : List Balloon), 0)) fun out3828 =>
  some out3828
def M.i_SetGoal (x3510 : List Int) (x3515 : List Balloon) (x3520 : Int) (x3521 : Int) : Option ((List Balloon) × Bool) :=
  Option.bind (M.i_balloonOf x3510 x3515 x3520) fun r3643 =>
  Option.bind (α := Bool) (bif !r3643.2 then some true
  else (Option.bind (M.i_isGoal x3521) fun r3656 =>
  some (!r3656))) fun o3652 =>
  bif o3652 then some (([] : List Balloon), false)
  else (Option.bind (M.i_newBalloons x3515) fun r3900 =>
  Option.bind (gxIdx r3900 r3643.1) fun y3910 =>
  some ((r3900.set r3643.1.toNat (⟨y3910.Guest, x3521, y3910.Gave⟩ : Balloon)), true))
def M.l_markIntS (x3980 : List Int) (x3986 : Int) : Option (Int × (List Int)) :=
  Option.bind (whileM (σ := Int × Int × List Int) (ρ := Int × List Int) (fun s4003 =>
    bif decide (s4003.2.1 < (s4003.2.2.length : Int)) then (Option.bind (gxIdx s4003.2.2 s4003.2.1) fun y4021 =>
    some (.inl (w64 (s4003.1 + 1), w64 (s4003.2.1 + 1), (s4003.2.2.set s4003.2.1.toNat s4003.1))))
    else some (.inr (s4003.1, s4003.2.2))) gxFuel (x3986, 0, x3980)) fun out4010 =>
  some (out4010.1, out4010.2)
def M.l_markBalloonS (x4037 : List Balloon) (x4044 : Int) : Option (Int × (List Balloon)) :=
  Option.bind (whileM (σ := Int × Int × List Balloon) (ρ := Int × List Balloon) (fun s4171 =>
    bif decide (s4171.2.1 < (s4171.2.2.length : Int)) then (Option.bind (gxIdx s4171.2.2 s4171.2.1) fun y4191 =>
    Option.bind (gxIdx (s4171.2.2.set s4171.2.1.toNat (⟨s4171.1, y4191.Goal, y4191.Gave⟩ : Balloon)) s4171.2.1) fun y4204 =>
    Option.bind (gxIdx ((s4171.2.2.set s4171.2.1.toNat (⟨s4171.1, y4191.Goal, y4191.Gave⟩ : Balloon)).set s4171.2.1.toNat (⟨y4204.Guest, w64 (s4171.1 + 1), y4204.Gave⟩ : Balloon)) s4171.2.1) fun y4217 =>
    Option.bind (M.l_markIntS y4217.Gave (w64 ((w64 (s4171.1 + 1)) + 1))) fun r4225 =>
    some (.inl (r4225.1, w64 (s4171.2.1 + 1), (((s4171.2.2.set s4171.2.1.toNat (⟨s4171.1, y4191.Goal, y4191.Gave⟩ : Balloon)).set s4171.2.1.toNat (⟨y4204.Guest, w64 (s4171.1 + 1), y4204.Gave⟩ : Balloon)).set s4171.2.1.toNat (⟨y4217.Guest, y4217.Goal, r4225.2⟩ : Balloon)))))
    else some (.inr (s4171.1, s4171.2.2))) gxFuel (x4044, 0, x4037)) fun out4178 =>
  some (out4178.1, out4178.2)
def M.l_heldIntS (x4315 : List Int) (x4320 : Int) : Option (Int) :=
  Option.bind (whileM (σ := Int × Int) (ρ := (Int) ⊕ (Int)) (fun s4327 =>
    bif decide (s4327.2 < (x4315.length : Int)) then (Option.bind (gxIdx x4315 s4327.2) fun y4339 =>
    bif y4339 != s4327.1 then some (.inr (.inr (-1)))
    else some (.inl (w64 (s4327.1 + 1), w64 (s4327.2 + 1))))
    else some (.inr (.inl s4327.1))) gxFuel (x4320, 0)) fun out4334 => Sum.elim (fun (o4337 : Int) =>
  some o4337) (fun r => some r) out4334
def M.l_heldBalloonS (x4290 : List Balloon) (x4295 : Int) : Option (Int) :=
  Option.bind (whileM (σ := Int × Int) (ρ := (Int) ⊕ (Int)) (fun s4374 =>
    bif decide (s4374.2 < (x4290.length : Int)) then (Option.bind (gxIdx x4290 s4374.2) fun y4386 =>
    bif y4386.Guest != s4374.1 then some (.inr (.inr (-1)))
    else (Option.bind (gxIdx x4290 s4374.2) fun y4395 =>
    bif y4395.Goal != (w64 (s4374.1 + 1)) then some (.inr (.inr (-1)))
    else (Option.bind (gxIdx x4290 s4374.2) fun y4400 =>
    Option.bind (M.l_heldIntS y4400.Gave (w64 ((w64 (s4374.1 + 1)) + 1))) fun r4404 =>
    bif decide (r4404 < 0) then some (.inr (.inr (-1)))
    else some (.inl (r4404, w64 (s4374.2 + 1))))))
    else some (.inr (.inl s4374.1))) gxFuel (x4295, 0)) fun out4381 => Sum.elim (fun (o4384 : Int) =>
  some o4384) (fun r => some r) out4381
def M.l_FnExactSetGoal (x2715 : List Int) (x2720 : List Balloon) (x2725 : Int) (x2726 : Int) : Option (Bool) :=
  bif decide ((x2715.length : Int) > 1048576) then some true
  else (Option.bind (M.l_szBalloonS x2720 1048576) fun r2728 =>
  bif decide (r2728 < 0) then some true
  else (Option.bind (M.l_toIntS x2715) fun r2733 =>
  Option.bind (M.l_toBalloonS x2720) fun r2742 =>
  Option.bind (M.s_SetGoal r2733 r2742 x2725 x2726) fun r3481 =>
  Option.bind (M.l_toIntS x2715) fun r3491 =>
  Option.bind (M.l_toBalloonS x2720) fun r3500 =>
  Option.bind (M.i_SetGoal r3491 r3500 x2725 x2726) fun r3923 =>
  Option.bind (α := Bool) (Option.bind (M.l_eqBalloonS r3923.1 r3481.1) fun r3941 =>
  bif !r3941 then some true
  else some (!(r3923.2 == r3481.2))) fun o3938 =>
  bif o3938 then some false
  else (Option.bind (M.l_toIntS x2715) fun r3951 =>
  Option.bind (M.l_eqIntS r3491 r3951) fun r3960 =>
  bif !r3960 then some false
  else (Option.bind (M.l_toBalloonS x2720) fun r3965 =>
  Option.bind (M.l_eqBalloonS r3500 r3965) fun r3975 =>
  bif !r3975 then some false
  else (Option.bind (M.l_markIntS r3491 1) fun r4030 =>
  Option.bind (M.l_markBalloonS r3500 r4030.1) fun r4254 =>
  Option.bind (α := Bool) (bif decide (r4254.1 < 0) then some true
  else (Option.bind (M.l_eqBalloonS r3923.1 r3481.1) fun r4272 =>
  bif !r4272 then some true
  else some (!(r3923.2 == r3481.2)))) fun o4268 =>
  bif o4268 then some false
  else (Option.bind (M.l_markBalloonS r3923.1 1) fun r4282 =>
  Option.bind (M.l_heldBalloonS r4282.2 1) fun r4413 =>
  bif decide (r4413 < 0) then some false
  else (bif r4413 != r4282.1 then some false
  else (Option.bind (M.l_toIntS x2715) fun r4419 =>
  Option.bind (M.l_toBalloonS x2720) fun r4428 =>
  Option.bind (M.i_SetGoal r4419 r4428 x2725 x2726) fun r4438 =>
  Option.bind (α := Bool) (Option.bind (M.l_eqBalloonS r4438.1 r3481.1) fun r4456 =>
  bif !r4456 then some true
  else some (!(r4438.2 == r3481.2))) fun o4453 =>
  bif o4453 then some false
  else (Option.bind (M.l_heldBalloonS r4282.2 1) fun r4466 =>
  bif decide (r4466 < 0) then some false
  else (bif r4466 != r4282.1 then some false
  else some true))))))))))
def M.s_l18Count (x4671 : List Int) (x4676 : Int) : Option (Int) :=
  Option.bind (whileM (σ := Int × Int) (ρ := Int) (fun s4699 =>
    bif decide (s4699.2 < (x4671.length : Int)) then (Option.bind (gxIdx x4671 s4699.2) fun y4711 =>
    Option.bind (α := Int) (bif y4711 == x4676 then some (w64 (s4699.1 + 1))
    else some s4699.1) fun o4713 =>
    some (.inl (o4713, w64 (s4699.2 + 1))))
    else some (.inr s4699.1)) gxFuel (0, 0)) fun out4706 =>
  some out4706
def M.s_ShareGoals (x4508 : List Int) (x4513 : List Balloon) (x4518 : Int) : Option ((List Balloon) × Bool) :=
  Option.bind (α := Bool) (Option.bind (M.s_l18Good x4508 x4513) fun r4537 =>
  bif !r4537 then some true
  else (Option.bind (M.s_l1In x4518 0 16) fun r4542 =>
  some (!r4542))) fun o4534 =>
  bif o4534 then some (([] : List Balloon), false)
  else (Option.bind (M.s_l18With x4513 (-1) 0 ([] : List Int)) fun r4561 =>
  Option.bind (whileM (σ := List Balloon × Int) (ρ := List Balloon) (fun s4615 =>
    bif decide (s4615.2 < (s4615.1.length : Int)) then (Option.bind (gxIdx s4615.1 s4615.2) fun y4639 =>
    Option.bind (M.s_l18With s4615.1 s4615.2 0 y4639.Gave) fun r4647 =>
    some (.inl (r4647, w64 (s4615.2 + 1))))
    else some (.inr s4615.1)) gxFuel (r4561, 0)) fun out4622 =>
  Option.bind (whileM (σ := Int × List Balloon) (ρ := (List Balloon) ⊕ ((List Balloon) × Bool)) (fun s5123 =>
    bif decide (s5123.1 > 0) then (Option.bind (whileM (σ := Int × Int × Int) (ρ := Int) (fun s5211 =>
      bif decide (s5211.2.2 < (s5123.2.length : Int)) then (Option.bind (gxIdx s5123.2 s5211.2.2) fun y5223 =>
      Option.bind (M.s_l18Count x4508 y5223.Guest) fun r5231 =>
      Option.bind (gxIdx s5123.2 s5211.2.2) fun y5235 =>
      Option.bind (gxIdx s5123.2 s5211.2.2) fun y5239 =>
      Option.bind (α := Int × Int) (bif decide ((w64 ((w64 (r5231 + (y5235.Gave.length : Int))) - y5239.Goal)) > s5211.2.1) then some (s5211.2.2, w64 ((w64 (r5231 + (y5235.Gave.length : Int))) - y5239.Goal))
      else some (s5211.1, s5211.2.1)) fun o5246 =>
      some (.inl (o5246.1, o5246.2, w64 (s5211.2.2 + 1))))
      else some (.inr s5211.1)) gxFuel ((-1), 1, 0)) fun out5218 =>
    bif decide (out5218 < 0) then some (.inr (.inr (([] : List Balloon), false)))
    else (Option.bind (gxIdx s5123.2 out5218) fun y5270 =>
    Option.bind (gxIdx s5123.2 out5218) fun y5278 =>
    Option.bind (M.s_l18With s5123.2 out5218 (w64 (y5270.Goal + 1)) y5278.Gave) fun r5337 =>
    some (.inl (w64 (s5123.1 - 1), r5337))))
    else some (.inr (.inl s5123.2))) gxFuel (x4518, out4622)) fun out5130 => Sum.elim (fun (o5139 : List Balloon) =>
  some (o5139, true)) (fun r => some r) out5130)
def M.i_framesOf (x5472 : List Int) (x5477 : Int) : Option ((List Int)) :=
  Option.bind (whileM (σ := List Int × Int) (ρ := List Int) (fun s5587 =>
    bif decide (s5587.2 < (x5472.length : Int)) then (Option.bind (gxIdx x5472 s5587.2) fun y5609 =>
    Option.bind (α := List Int) (bif y5609 == x5477 then (Option.bind (gxApp 8 s5587.1 [s5587.2]) fun ap5642 =>
    some ap5642)
    else some s5587.1) fun o5626 =>
    some (.inl (o5626, w64 (s5587.2 + 1))))
    else some (.inr s5587.1)) gxFuel (([] : List Int), 0)) fun out5594 =>
  some out5594
def M.slices_Max_67 (x5962 : List Int) : Option (Int) :=
  bif decide ((x5962.length : Int) < 1) then (none)
  else (Option.bind (gxIdx x5962 0) fun y5968 =>
  Option.bind (whileM (σ := Int × Int) (ρ := Int) (fun s5973 =>
    bif decide (s5973.2 < (x5962.length : Int)) then (Option.bind (gxIdx x5962 s5973.2) fun y5985 =>
    some (.inl (gxMax s5973.1 y5985, w64 (s5973.2 + 1))))
    else some (.inr s5973.1)) gxFuel (y5968, 1)) fun out5980 =>
  some out5980)
def M.i_ShareGoals (x5380 : List Int) (x5385 : List Balloon) (x5390 : Int) : Option ((List Balloon) × Bool) :=
  Option.bind (α := Bool) (Option.bind (M.i_AreBalloons x5380 x5385) fun r5409 =>
  bif !r5409 then some true
  else (Option.bind (M.i_isGoal x5390) fun r5414 =>
  some (!r5414))) fun o5406 =>
  bif o5406 then some (([] : List Balloon), false)
  else (Option.bind (M.i_newBalloons x5385) fun r5424 =>
  Option.bind (whileM (σ := List Int × Int × List Balloon) (ρ := List Int × List Balloon) (fun s5831 =>
    bif decide (s5831.2.1 < (x5385.length : Int)) then (Option.bind (gxIdx x5385 s5831.2.1) fun y5859 =>
    Option.bind (gxIdx s5831.2.2 s5831.2.1) fun y5874 =>
    Option.bind (M.i_framesOf x5380 y5859.Guest) fun r5889 =>
    Option.bind (gxApp 8 s5831.1 [w64 ((r5889.length : Int) + (y5859.Gave.length : Int))]) fun ap5948 =>
    some (.inl (ap5948, w64 (s5831.2.1 + 1), (s5831.2.2.set s5831.2.1.toNat (⟨y5874.Guest, 0, y5874.Gave⟩ : Balloon)))))
    else some (.inr (s5831.1, s5831.2.2))) gxFuel (([] : List Int), 0, r5424)) fun out5838 =>
  Option.bind (whileM (σ := Int × List Balloon × List Int) (ρ := (List Balloon × List Int) ⊕ ((List Balloon) × Bool)) (fun s6095 =>
    bif decide (s6095.1 < x5390) then (Option.bind (α := Bool) (bif (s6095.2.2.length : Int) == 0 then some true
    else (Option.bind (M.slices_Max_67 s6095.2.2) fun r6126 =>
    some (decide (r6126 < 2)))) fun o6122 =>
    bif o6122 then some (.inr (.inr (([] : List Balloon), false)))
    else (Option.bind (M.slices_Max_67 s6095.2.2) fun r6136 =>
    Option.bind (M.slices_Index_63 s6095.2.2 r6136) fun r6140 =>
    Option.bind (gxIdx s6095.2.2 r6140) fun y6144 =>
    Option.bind (gxIdx s6095.2.2 r6140) fun y6145 =>
    Option.bind (gxIdx s6095.2.1 r6140) fun y6150 =>
    Option.bind (gxIdx s6095.2.1 r6140) fun y6158 =>
    some (.inl (w64 (s6095.1 + 1), (s6095.2.1.set r6140.toNat (⟨y6158.Guest, w64 (y6150.Goal + 1), y6158.Gave⟩ : Balloon)), (s6095.2.2.set r6140.toNat (w64 (y6144 - 1)))))))
    else some (.inr (.inl (s6095.2.1, s6095.2.2)))) gxFuel (0, out5838.2, out5838.1)) fun out6102 => Sum.elim (fun (o6110 : List Balloon × List Int) =>
  some (o6110.1, true)) (fun r => some r) out6102)
def M.l_FnExactShareGoals (x4472 : List Int) (x4477 : List Balloon) (x4482 : Int) : Option (Bool) :=
  bif decide ((x4472.length : Int) > 1048576) then some true
  else (Option.bind (M.l_szBalloonS x4477 1048576) fun r4484 =>
  bif decide (r4484 < 0) then some true
  else (Option.bind (M.l_toIntS x4472) fun r4489 =>
  Option.bind (M.l_toBalloonS x4477) fun r4498 =>
  Option.bind (M.s_ShareGoals r4489 r4498 x4482) fun r5351 =>
  Option.bind (M.l_toIntS x4472) fun r5361 =>
  Option.bind (M.l_toBalloonS x4477) fun r5370 =>
  Option.bind (M.i_ShareGoals r5361 r5370 x4482) fun r6171 =>
  Option.bind (α := Bool) (Option.bind (M.l_eqBalloonS r6171.1 r5351.1) fun r6189 =>
  bif !r6189 then some true
  else some (!(r6171.2 == r5351.2))) fun o6186 =>
  bif o6186 then some false
  else (Option.bind (M.l_toIntS x4472) fun r6199 =>
  Option.bind (M.l_eqIntS r5361 r6199) fun r6208 =>
  bif !r6208 then some false
  else (Option.bind (M.l_toBalloonS x4477) fun r6213 =>
  Option.bind (M.l_eqBalloonS r5370 r6213) fun r6223 =>
  bif !r6223 then some false
  else (Option.bind (M.l_markIntS r5361 1) fun r6228 =>
  Option.bind (M.l_markBalloonS r5370 r6228.1) fun r6235 =>
  Option.bind (α := Bool) (bif decide (r6235.1 < 0) then some true
  else (Option.bind (M.l_eqBalloonS r6171.1 r5351.1) fun r6253 =>
  bif !r6253 then some true
  else some (!(r6171.2 == r5351.2)))) fun o6249 =>
  bif o6249 then some false
  else (Option.bind (M.l_markBalloonS r6171.1 1) fun r6263 =>
  Option.bind (M.l_heldBalloonS r6263.2 1) fun r6271 =>
  bif decide (r6271 < 0) then some false
  else (bif r6271 != r6263.1 then some false
  else (Option.bind (M.l_toIntS x4472) fun r6277 =>
  Option.bind (M.l_toBalloonS x4477) fun r6286 =>
  Option.bind (M.i_ShareGoals r6277 r6286 x4482) fun r6296 =>
  Option.bind (α := Bool) (Option.bind (M.l_eqBalloonS r6296.1 r5351.1) fun r6314 =>
  bif !r6314 then some true
  else some (!(r6296.2 == r5351.2))) fun o6311 =>
  bif o6311 then some false
  else (Option.bind (M.l_heldBalloonS r6263.2 1) fun r6324 =>
  bif decide (r6324 < 0) then some false
  else (bif r6324 != r6263.1 then some false
  else some true))))))))))
end Go.Proofs.Ytlfligjpmodefaa
