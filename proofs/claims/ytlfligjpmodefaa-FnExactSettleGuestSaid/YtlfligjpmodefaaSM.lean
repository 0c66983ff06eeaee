/- The models of the functions, printed by program: what each computes, in plain Lean. -/
import Derived.Test.YtlfligjpmodefaaGxT
set_option linter.unusedVariables false
set_option maxRecDepth 100000
set_option maxHeartbeats 4000000
namespace Go.Proofs.Ytlfligjpmodefaa
open Go.Gx
structure Balloon where
  Guest : Int
  Goal : Int
  Gave : List Int
def deepBalloon : Deep Balloon := ⟨⟨fun z => [.int .i64 z.1.Guest, .int .i64 z.1.Goal, .slice ((z.2 0).1) z.1.Gave.length ((z.2 0).2)], 3, fun _ => rfl, by simp [Value.oneCell']⟩, fun z => [⟨Int, Gx.encI, z.1.Gave, (z.2 0).1, (z.2 0).2⟩]⟩
structure l1Cur where
  code : List Int
  at_ : Int
  seed : Int
def M.l_szIntS (x39 : List Int) (x44 : Int) : Option (Int) :=
  bif decide ((w64 (x44 - (x39.length : Int))) < 0) then some (-1)
  else some (w64 (x44 - (x39.length : Int)))
def M.l_szBalloon (x29 : Balloon) (x34 : Int) : Option (Int) :=
  Option.bind (M.l_szIntS x29.Gave x34) fun r46 =>
  bif decide (r46 < 0) then some (-1)
  else some r46
def M.l_szBalloonS (x13 : List Balloon) (x18 : Int) : Option (Int) :=
  bif decide ((w64 (x18 - (x13.length : Int))) < 0) then some (-1)
  else (Option.bind (whileM (σ := Int × Int) (ρ := (Int) ⊕ (Int)) (fun s70 =>
    bif decide (s70.2 < (x13.length : Int)) then (Option.bind (gxIdx x13 s70.2) fun y82 =>
    Option.bind (M.l_szBalloon y82 s70.1) fun r90 =>
    bif decide (r90 < 0) then some (.inr (.inr (-1)))
    else some (.inl (r90, w64 (s70.2 + 1))))
    else some (.inr (.inl s70.1))) gxFuel (w64 (x18 - (x13.length : Int)), 0)) fun out77 => Sum.elim (fun (o80 : Int) =>
  some o80) (fun r => some r) out77)
def M.l_toIntS (x104 : List Int) : Option ((List Int)) :=
  Option.bind (gxMake 8 (x104.length : Int) (0 : Int)) fun mk114 =>
  Option.bind (whileM (σ := Int × List Int) (ρ := List Int) (fun s138 =>
    bif decide (s138.1 < (x104.length : Int)) then (Option.bind (gxIdx x104 s138.1) fun y154 =>
    Option.bind (gxIdx s138.2 s138.1) fun y155 =>
    some (.inl (w64 (s138.1 + 1), (s138.2.set s138.1.toNat y154))))
    else some (.inr s138.2)) gxFuel (0, mk114)) fun out145 =>
  some out145
def M.l_toBalloon (x204 : Balloon) : Option (Balloon) :=
  Option.bind (M.l_toIntS x204.Gave) fun r231 =>
  some (⟨x204.Guest, x204.Goal, r231⟩ : Balloon)
def M.l_toBalloonS (x173 : List Balloon) : Option ((List Balloon)) :=
  Option.bind (gxMake 40 (x173.length : Int) ((⟨0, 0, []⟩ : Balloon) : Balloon)) fun mk185 =>
  Option.bind (whileM (σ := Int × List Balloon) (ρ := List Balloon) (fun s320 =>
    bif decide (s320.1 < (x173.length : Int)) then (Option.bind (gxIdx x173 s320.1) fun y338 =>
    Option.bind (M.l_toBalloon y338) fun r346 =>
    Option.bind (gxIdx s320.2 s320.1) fun y355 =>
    some (.inl (w64 (s320.1 + 1), (s320.2.set s320.1.toNat r346))))
    else some (.inr s320.2)) gxFuel (0, mk185)) fun out327 =>
  some out327
def M.s_l18Find (x414 : List Balloon) (x419 : Int) : Option (Int) :=
  Option.bind (whileM (σ := Int) (ρ := (Unit) ⊕ (Int)) (fun s440 =>
    bif decide (s440 < (x414.length : Int)) then (Option.bind (gxIdx x414 s440) fun y452 =>
    bif y452.Guest == x419 then some (.inr (.inr s440))
    else some (.inl (w64 (s440 + 1))))
    else some (.inr (.inl ()))) gxFuel 0) fun out447 => Sum.elim (fun (o450 : Unit) =>
  some (-1)) (fun r => some r) out447
def M.s_l1In (x486 : Int) (x487 : Int) (x488 : Int) : Option (Bool) :=
  Option.bind (α := Bool) (bif decide (x486 ≥ x487) then some (decide (x486 ≤ x488))
  else some false) fun o490 =>
  some o490
def M.s_l2Good (x479 : List Int) : Option (Bool) :=
  Option.bind (whileM (σ := Int) (ρ := (Unit) ⊕ (Bool)) (fun s510 =>
    bif decide (s510 < (x479.length : Int)) then (Option.bind (gxIdx x479 s510) fun y522 =>
    Option.bind (M.s_l1In y522 0 4) fun r523 =>
    bif !r523 then some (.inr (.inr false))
    else some (.inl (w64 (s510 + 1))))
    else some (.inr (.inl ()))) gxFuel 0) fun out517 => Sum.elim (fun (o520 : Unit) =>
  Option.bind (M.s_l1In (x479.length : Int) 1 16) fun r532 =>
  some r532) (fun r => some r) out517
def M.s_l1Rising (x586 : List Int) (x591 : Int) (x592 : Int) : Option (Bool) :=
  Option.bind (whileM (σ := Int) (ρ := (Unit) ⊕ (Bool)) (fun s671 =>
    bif decide (s671 < (x586.length : Int)) then (Option.bind (α := Bool) (Option.bind (gxIdx x586 s671) fun y701 =>
    Option.bind (M.s_l1In y701 x591 x592) fun r702 =>
    bif !r702 then some true
    else (bif decide (s671 > 0) then (Option.bind (gxIdx x586 (w64 (s671 - 1))) fun y710 =>
    Option.bind (gxIdx x586 s671) fun y711 =>
    some (decide (y710 ≥ y711)))
    else some false)) fun o698 =>
    bif o698 then some (.inr (.inr false))
    else some (.inl (w64 (s671 + 1))))
    else some (.inr (.inl ()))) gxFuel 0) fun out678 => Sum.elim (fun (o681 : Unit) =>
  some true) (fun r => some r) out678
def M.s_l1Has (x784 : List Int) (x789 : Int) : Option (Bool) :=
  Option.bind (whileM (σ := Int) (ρ := (Unit) ⊕ (Bool)) (fun s796 =>
    bif decide (s796 < (x784.length : Int)) then (Option.bind (gxIdx x784 s796) fun y808 =>
    bif y808 == x789 then some (.inr (.inr true))
    else some (.inl (w64 (s796 + 1))))
    else some (.inr (.inl ()))) gxFuel 0) fun out803 => Sum.elim (fun (o806 : Unit) =>
  some false) (fun r => some r) out803
def M.s_l18Good (x469 : List Int) (x474 : List Balloon) : Option (Bool) :=
  Option.bind (M.s_l2Good x469) fun r536 =>
  bif !r536 then some false
  else (Option.bind (whileM (σ := List Int × Int) (ρ := (Unit) ⊕ (Bool)) (fun s1102 =>
    bif decide (s1102.2 < (x474.length : Int)) then (Option.bind (gxIdx x474 s1102.2) fun y1119 =>
    Option.bind (α := Bool) (Option.bind (M.s_l1In y1119.Guest 1 4) fun r1171 =>
    bif !r1171 then some true
    else (Option.bind (M.s_l1In y1119.Goal 0 16) fun r1178 =>
    bif !r1178 then some true
    else (bif decide (s1102.2 > 0) then (Option.bind (gxIdx x474 (w64 (s1102.2 - 1))) fun y1186 =>
    bif decide (y1186.Guest ≥ y1119.Guest) then some true
    else (Option.bind (M.s_l1Rising y1119.Gave 0 (w64 ((x469.length : Int) - 1))) fun r1193 =>
    some (!r1193)))
    else (Option.bind (M.s_l1Rising y1119.Gave 0 (w64 ((x469.length : Int) - 1))) fun r1199 =>
    some (!r1199))))) fun o1168 =>
    bif o1168 then some (.inr (.inr false))
    else (Option.bind (whileM (σ := Int) (ρ := (Unit) ⊕ (Bool)) (fun s1260 =>
      bif decide (s1260 < (y1119.Gave.length : Int)) then (Option.bind (α := Bool) (Option.bind (gxIdx y1119.Gave s1260) fun y1283 =>
      Option.bind (gxIdx x469 y1283) fun y1284 =>
      bif y1284 != 0 then some true
      else (Option.bind (gxIdx y1119.Gave s1260) fun y1286 =>
      Option.bind (M.s_l1Has s1102.1 y1286) fun r1287 =>
      some r1287)) fun o1280 =>
      bif o1280 then some (.inr (.inr false))
      else some (.inl (w64 (s1260 + 1))))
      else some (.inr (.inl ()))) gxFuel 0) fun out1267 => Sum.elim (fun (o1270 : Unit) =>
    Option.bind (gxApp 8 s1102.1 y1119.Gave) fun ap1300 =>
    some (.inl (ap1300, w64 (s1102.2 + 1)))) (fun r => some (.inr (.inr r))) out1267))
    else some (.inr (.inl ()))) gxFuel (([] : List Int), 0)) fun out1109 => Sum.elim (fun (o1117 : Unit) =>
  some true) (fun r => some r) out1109)
def M.s_l1Own (x1346 : List Int) : Option ((List Int)) :=
  Option.bind (gxApp 8 ([] : List Int) x1346) fun ap1363 =>
  some ap1363
def M.s_l18With (x1381 : List Balloon) (x1386 : Int) (x1387 : Int) (x1388 : List Int) : Option ((List Balloon)) :=
  Option.bind (whileM (σ := List Balloon × Int) (ρ := List Balloon) (fun s1758 =>
    bif decide (s1758.2 < (x1381.length : Int)) then (Option.bind (gxIdx x1381 s1758.2) fun y1784 =>
    Option.bind (gxIdx x1381 s1758.2) fun y1792 =>
    Option.bind (gxIdx x1381 s1758.2) fun y1796 =>
    Option.bind (M.s_l1Own y1796.Gave) fun r1800 =>
    Option.bind (α := Int × List Int) (bif s1758.2 == x1386 then (Option.bind (M.s_l1Own x1388) fun r1913 =>
    some (x1387, r1913))
    else some (y1792.Goal, r1800)) fun o1902 =>
    Option.bind (gxApp 40 s1758.1 [(⟨y1784.Guest, o1902.1, o1902.2⟩ : Balloon)]) fun ap1938 =>
    some (.inl (ap1938, w64 (s1758.2 + 1))))
    else some (.inr s1758.1)) gxFuel (([] : List Balloon), 0)) fun out1765 =>
  some out1765
def M.s_l18Owner (x2073 : List Int) (x2078 : Int) (x2079 : Int) : Option ((List Int)) :=
  Option.bind (M.s_l1Own x2073) fun r2085 =>
  Option.bind (gxIdx r2085 x2078) fun y2094 =>
  some (r2085.set x2078.toNat x2079)
def M.s_l18Count (x2182 : List Int) (x2187 : Int) : Option (Int) :=
  Option.bind (whileM (σ := Int × Int) (ρ := Int) (fun s2210 =>
    bif decide (s2210.2 < (x2182.length : Int)) then (Option.bind (gxIdx x2182 s2210.2) fun y2222 =>
    Option.bind (α := Int) (bif y2222 == x2187 then some (w64 (s2210.1 + 1))
    else some s2210.1) fun o2224 =>
    some (.inl (o2224, w64 (s2210.2 + 1))))
    else some (.inr s2210.1)) gxFuel (0, 0)) fun out2217 =>
  some out2217
def M.s_l1Put (x2294 : List Int) (x2300 : Int) : Option ((List Int)) :=
  Option.bind (whileM (σ := Int) (ρ := Int) (fun s2330 =>
    Option.bind (α := Bool) (bif decide (s2330 < (x2294.length : Int)) then (Option.bind (gxIdx x2294 s2330) fun y2347 =>
    some (decide (y2347 < x2300)))
    else some false) fun o2343 =>
    bif o2343 then some (.inl (w64 (s2330 + 1)))
    else some (.inr s2330)) gxFuel 0) fun out2337 =>
  Option.bind (α := Bool) (bif decide (out2337 < (x2294.length : Int)) then (Option.bind (gxIdx x2294 out2337) fun y2363 =>
  some (y2363 == x2300))
  else some false) fun o2359 =>
  bif o2359 then some x2294
  else (Option.bind (gxSlice x2294 0 out2337) fun ys2376 =>
  Option.bind (gxApp 8 ([] : List Int) ys2376) fun ap2378 =>
  Option.bind (gxApp 8 ap2378 [x2300]) fun ap2389 =>
  Option.bind (gxSlice x2294 out2337 (x2294.length : Int)) fun ys2395 =>
  Option.bind (gxApp 8 ap2389 ys2395) fun ap2444 =>
  some ap2444)
def M.s_l18Step (x2030 : List Int) (x2035 : List Balloon) (x2040 : Int) (x2041 : Int) : Option ((List Int) × (List Balloon) × Bool) :=
  Option.bind (gxIdx x2035 x2040) fun y2053 =>
  bif decide (x2041 < 0) then (bif decide ((y2053.Gave.length : Int) ≤ y2053.Goal) then some (x2030, x2035, false)
  else (Option.bind (gxIdx y2053.Gave 0) fun y2072 =>
  Option.bind (M.s_l18Owner x2030 y2072 y2053.Guest) fun r2099 =>
  Option.bind (gxSlice y2053.Gave 1 (y2053.Gave.length : Int)) fun ys2105 =>
  Option.bind (M.s_l18With x2035 x2040 y2053.Goal ys2105) fun r2171 =>
  some (r2099, r2171, true)))
  else (Option.bind (α := Bool) (bif decide ((y2053.Gave.length : Int) ≥ y2053.Goal) then some true
  else (Option.bind (M.s_l18Count x2030 y2053.Guest) fun r2244 =>
  some (decide (r2244 < 2)))) fun o2240 =>
  bif o2240 then some (x2030, x2035, false)
  else (Option.bind (whileM (σ := Int) (ρ := Int) (fun s2261 =>
    Option.bind (gxIdx x2030 s2261) fun y2272 =>
    bif y2272 != y2053.Guest then some (.inl (w64 (s2261 - 1)))
    else some (.inr s2261)) gxFuel (w64 ((x2030.length : Int) - 1))) fun out2268 =>
  Option.bind (M.s_l18Owner x2030 out2268 0) fun r2282 =>
  Option.bind (M.s_l1Own y2053.Gave) fun r2288 =>
  Option.bind (M.s_l1Put r2288 out2268) fun r2452 =>
  Option.bind (M.s_l18With x2035 x2040 y2053.Goal r2452) fun r2513 =>
  some (r2282, r2513, true)))
def M.s_SettleGuest (x392 : List Int) (x397 : List Balloon) (x402 : Int) : Option ((List Int) × (List Balloon) × Int × Bool) :=
  Option.bind (M.s_l18Find x397 x402) fun r465 =>
  Option.bind (α := Bool) (Option.bind (M.s_l18Good x392 x397) fun r1320 =>
  bif !r1320 then some true
  else some (decide (r465 < 0))) fun o1317 =>
  bif o1317 then some (([] : List Int), ([] : List Balloon), 0, false)
  else (Option.bind (M.s_l1Own x392) fun r1371 =>
  Option.bind (M.s_l18With x397 (-1) 0 ([] : List Int)) fun r1957 =>
  Option.bind (gxIdx x397 r465) fun y1967 =>
  Option.bind (gxIdx x397 r465) fun y1975 =>
  Option.bind (α := Int) (bif decide ((y1967.Gave.length : Int) > y1975.Goal) then some (-1)
  else some 1) fun o1982 =>
  Option.bind (whileM (σ := List Int × List Balloon × Int) (ρ := (List Int) × (List Balloon) × Int × Bool) (fun s2566 =>
    Option.bind (M.s_l18Step s2566.1 s2566.2.1 r465 o1982) fun r2587 =>
    bif !r2587.2.2 then some (.inr (s2566.1, s2566.2.1, s2566.2.2, true))
    else some (.inl (r2587.1, r2587.2.1, w64 (s2566.2.2 + 1)))) gxFuel (r1371, r1957, 0)) fun out2573 => some out2573)
def M.i_balloonOf_1 (x2696 : Balloon) (x2701 : Int) : Option (Bool) :=
  some (x2696.Guest == x2701)
def M.slices_IndexFunc_85__i_balloonOf_1 (x2678 : List Balloon) (x2683 : Int) : Option (Int) :=
  Option.bind (whileM (σ := Int) (ρ := (Unit) ⊕ (Int)) (fun s2728 =>
    bif decide (s2728 < (x2678.length : Int)) then (Option.bind (gxIdx x2678 s2728) fun y2740 =>
    Option.bind (M.i_balloonOf_1 y2740 x2683) fun r2748 =>
    bif r2748 then some (.inr (.inr s2728))
    else some (.inl (w64 (s2728 + 1))))
    else some (.inr (.inl ()))) gxFuel 0) fun out2735 => Sum.elim (fun (o2738 : Unit) =>
  some (-1)) (fun r => some r) out2735
def M.i_inside (x2776 : Int) (x2777 : Int) (x2778 : Int) : Option (Bool) :=
  Option.bind (α := Bool) (bif decide (x2776 ≥ x2777) then some (decide (x2776 ≤ x2778))
  else some false) fun o2780 =>
  some o2780
def M.i_AreOwners_1 (x2805 : Int) : Option (Bool) :=
  Option.bind (M.i_inside x2805 0 4) fun r2806 =>
  some (!r2806)
def M.slices_IndexFunc_91__i_AreOwners_1 (x2798 : List Int) : Option (Int) :=
  Option.bind (whileM (σ := Int) (ρ := (Unit) ⊕ (Int)) (fun s2822 =>
    bif decide (s2822 < (x2798.length : Int)) then (Option.bind (gxIdx x2798 s2822) fun y2834 =>
    Option.bind (M.i_AreOwners_1 y2834) fun r2835 =>
    bif r2835 then some (.inr (.inr s2822))
    else some (.inl (w64 (s2822 + 1))))
    else some (.inr (.inl ()))) gxFuel 0) fun out2829 => Sum.elim (fun (o2832 : Unit) =>
  some (-1)) (fun r => some r) out2829
def M.slices_ContainsFunc_83__i_AreOwners_1 (x2793 : List Int) : Option (Bool) :=
  Option.bind (M.slices_IndexFunc_91__i_AreOwners_1 x2793) fun r2844 =>
  some (decide (r2844 ≥ 0))
def M.i_AreOwners (x2771 : List Int) : Option (Bool) :=
  Option.bind (α := Bool) (Option.bind (M.i_inside (x2771.length : Int) 1 16) fun r2855 =>
  bif r2855 then (Option.bind (M.slices_ContainsFunc_83__i_AreOwners_1 x2771) fun r2860 =>
  some (!r2860))
  else some false) fun o2852 =>
  some o2852
def M.i_isGuest (x2896 : Int) : Option (Bool) :=
  Option.bind (M.i_inside x2896 1 4) fun r2897 =>
  some r2897
def M.i_isGoal (x2908 : Int) : Option (Bool) :=
  Option.bind (M.i_inside x2908 0 16) fun r2909 =>
  some r2909
def M.i_ascending (x2920 : List Int) (x2925 : Int) (x2926 : Int) : Option (Bool) :=
  Option.bind (whileM (σ := Int) (ρ := (Unit) ⊕ (Bool)) (fun s2975 =>
    bif decide (s2975 < (x2920.length : Int)) then (Option.bind (gxIdx x2920 s2975) fun y2987 =>
    Option.bind (α := Bool) (Option.bind (M.i_inside y2987 x2925 x2926) fun r2998 =>
    bif !r2998 then some true
    else (bif decide (s2975 > 0) then (Option.bind (gxIdx x2920 (w64 (s2975 - 1))) fun y3004 =>
    some (decide (y3004 ≥ y2987)))
    else some false)) fun o2995 =>
    bif o2995 then some (.inr (.inr false))
    else some (.inl (w64 (s2975 + 1))))
    else some (.inr (.inl ()))) gxFuel 0) fun out2982 => Sum.elim (fun (o2985 : Unit) =>
  some true) (fun r => some r) out2982
def M.slices_Index_63 (x3078 : List Int) (x3083 : Int) : Option (Int) :=
  Option.bind (whileM (σ := Int) (ρ := (Unit) ⊕ (Int)) (fun s3090 =>
    bif decide (s3090 < (x3078.length : Int)) then (Option.bind (gxIdx x3078 s3090) fun y3102 =>
    bif x3083 == y3102 then some (.inr (.inr s3090))
    else some (.inl (w64 (s3090 + 1))))
    else some (.inr (.inl ()))) gxFuel 0) fun out3097 => Sum.elim (fun (o3100 : Unit) =>
  some (-1)) (fun r => some r) out3097
def M.slices_Contains_53 (x3072 : List Int) (x3077 : Int) : Option (Bool) :=
  Option.bind (M.slices_Index_63 x3072 x3077) fun r3108 =>
  some (decide (r3108 ≥ 0))
def M.i_AreBalloons (x2761 : List Int) (x2766 : List Balloon) : Option (Bool) :=
  Option.bind (M.i_AreOwners x2761) fun r2868 =>
  bif !r2868 then some false
  else (Option.bind (whileM (σ := List Int × Int) (ρ := (Unit) ⊕ (Bool)) (fun s3479 =>
    bif decide (s3479.2 < (x2766.length : Int)) then (Option.bind (gxIdx x2766 s3479.2) fun y3496 =>
    Option.bind (α := Bool) (Option.bind (M.i_isGuest y3496.Guest) fun r3544 =>
    bif !r3544 then some true
    else (Option.bind (M.i_isGoal y3496.Goal) fun r3551 =>
    bif !r3551 then some true
    else (Option.bind (M.i_ascending y3496.Gave 0 (w64 ((x2761.length : Int) - 1))) fun r3558 =>
    bif !r3558 then some true
    else (bif decide (s3479.2 > 0) then (Option.bind (gxIdx x2766 (w64 (s3479.2 - 1))) fun y3566 =>
    some (decide (y3566.Guest ≥ y3496.Guest)))
    else some false)))) fun o3541 =>
    bif o3541 then some (.inr (.inr false))
    else (Option.bind (whileM (σ := List Int × Int) (ρ := (List Int) ⊕ (Bool)) (fun s3658 =>
      bif decide (s3658.2 < (y3496.Gave.length : Int)) then (Option.bind (gxIdx y3496.Gave s3658.2) fun y3680 =>
      Option.bind (α := Bool) (Option.bind (gxIdx x2761 y3680) fun y3690 =>
      bif y3690 != 0 then some true
      else (Option.bind (M.slices_Contains_53 s3658.1 y3680) fun r3692 =>
      some r3692)) fun o3687 =>
      bif o3687 then some (.inr (.inr false))
      else (Option.bind (gxApp 8 s3658.1 [y3680]) fun ap3708 =>
      some (.inl (ap3708, w64 (s3658.2 + 1)))))
      else some (.inr (.inl s3658.1))) gxFuel (s3479.1, 0)) fun out3665 => Sum.elim (fun (o3673 : List Int) =>
    some (.inl (o3673, w64 (s3479.2 + 1)))) (fun r => some (.inr (.inr r))) out3665))
    else some (.inr (.inl ()))) gxFuel (([] : List Int), 0)) fun out3486 => Sum.elim (fun (o3494 : Unit) =>
  some true) (fun r => some r) out3486)
def M.i_balloonOf (x2663 : List Int) (x2668 : List Balloon) (x2673 : Int) : Option (Int × Bool) :=
  Option.bind (M.slices_IndexFunc_85__i_balloonOf_1 x2668 x2673) fun r2757 =>
  Option.bind (α := Int × Bool) (Option.bind (M.i_AreBalloons x2663 x2668) fun r3732 =>
  bif r3732 then some (r2757, decide (r2757 ≥ 0))
  else some (r2757, false)) fun o3729 =>
  some (o3729.1, o3729.2)
def M.i_copyInts (x3748 : List Int) : Option ((List Int)) :=
  Option.bind (gxApp 8 ([] : List Int) x3748) fun ap3765 =>
  some ap3765
def M.i_newBalloons (x3782 : List Balloon) : Option ((List Balloon)) :=
  Option.bind (whileM (σ := List Balloon × Int) (ρ := List Balloon) (fun s3912 =>
    bif decide (s3912.2 < (x3782.length : Int)) then (Option.bind (gxIdx x3782 s3912.2) fun y3936 =>
    Option.bind (M.i_copyInts y3936.Gave) fun r3951 =>
    Option.bind (gxApp 40 s3912.1 [(⟨y3936.Guest, y3936.Goal, r3951⟩ : Balloon)]) fun ap3972 =>
    some (.inl (ap3972, w64 (s3912.2 + 1))))
    else some (.inr s3912.1)) gxFuel (([] : List Balloon), 0)) fun out3919 =>
  some out3919
def M.i_framesOf (x4032 : List Int) (x4037 : Int) : Option ((List Int)) :=
  Option.bind (whileM (σ := List Int × Int) (ρ := List Int) (fun s4147 =>
    bif decide (s4147.2 < (x4032.length : Int)) then (Option.bind (gxIdx x4032 s4147.2) fun y4169 =>
    Option.bind (α := List Int) (bif y4169 == x4037 then (Option.bind (gxApp 8 s4147.1 [s4147.2]) fun ap4202 =>
    some ap4202)
    else some s4147.1) fun o4186 =>
    some (.inl (o4186, w64 (s4147.2 + 1))))
    else some (.inr s4147.1)) gxFuel (([] : List Int), 0)) fun out4154 =>
  some out4154
def M.slices_Sort_88 (x4364 : List Int) : Option ((List Int)) :=
  bif decide (x4364.length < 4611686018427387904) then some (gxSortI x4364)
  else none
def M.i_inflate__e1 (x4251 : List Int) (x4257 : List Balloon) (x4264 : Int) : Option (Bool × (List Int) × (List Balloon)) :=
  Option.bind (gxIdx x4257 x4264) fun y4265 =>
  Option.bind (M.i_framesOf x4251 y4265.Guest) fun r4276 =>
  Option.bind (α := Bool) (bif decide ((y4265.Gave.length : Int) ≥ y4265.Goal) then some true
  else some (decide ((r4276.length : Int) < 2))) fun o4292 =>
  bif o4292 then some (false, x4251, x4257)
  else (Option.bind (gxIdx r4276 (w64 ((r4276.length : Int) - 1))) fun y4307 =>
  Option.bind (gxIdx x4251 y4307) fun y4308 =>
  Option.bind (gxApp 8 y4265.Gave [y4307]) fun ap4335 =>
  Option.bind (M.slices_Sort_88 ((⟨y4265.Guest, y4265.Goal, ap4335⟩ : Balloon).Gave)) fun r4371 =>
  some (true, (x4251.set y4307.toNat 0), ((x4257.set x4264.toNat (⟨y4265.Guest, y4265.Goal, ap4335⟩ : Balloon)).set x4264.toNat (⟨(⟨y4265.Guest, y4265.Goal, ap4335⟩ : Balloon).Guest, (⟨y4265.Guest, y4265.Goal, ap4335⟩ : Balloon).Goal, r4371⟩ : Balloon))))
def M.i_deflate__e1 (x4497 : List Int) (x4503 : List Balloon) (x4510 : Int) : Option (Bool × (List Int) × (List Balloon)) :=
  Option.bind (gxIdx x4503 x4510) fun y4511 =>
  bif decide ((y4511.Gave.length : Int) ≤ y4511.Goal) then some (false, x4497, x4503)
  else (Option.bind (gxIdx y4511.Gave 0) fun y4529 =>
  Option.bind (gxIdx x4497 y4529) fun y4578 =>
  Option.bind (gxSlice y4511.Gave 1 (y4511.Gave.length : Int)) fun ys4584 =>
  some (true, (x4497.set y4529.toNat y4511.Guest), (x4503.set x4510.toNat (⟨y4511.Guest, y4511.Goal, ys4584⟩ : Balloon))))
def M.i_SettleGuest (x2641 : List Int) (x2646 : List Balloon) (x2651 : Int) : Option ((List Int) × (List Balloon) × Int × Bool) :=
  Option.bind (M.i_balloonOf x2641 x2646 x2651) fun r3741 =>
  bif !r3741.2 then some (([] : List Int), ([] : List Balloon), 0, false)
  else (Option.bind (M.i_copyInts x2641) fun r3773 =>
  Option.bind (M.i_newBalloons x2646) fun r3991 =>
  Option.bind (whileM (σ := Int × List Int × List Balloon) (ρ := Int × List Int × List Balloon) (fun s4762 =>
    Option.bind (α := Bool × List Int × List Balloon) (Option.bind (gxIdx s4762.2.2 r3741.1) fun y4828 =>
    Option.bind (M.i_inflate__e1 s4762.2.1 s4762.2.2 r3741.1) fun r4835 =>
    bif r4835.1 then some (true, r4835.2.1, r4835.2.2)
    else (Option.bind (gxIdx r4835.2.2 r3741.1) fun y4847 =>
    Option.bind (M.i_deflate__e1 r4835.2.1 r4835.2.2 r3741.1) fun r4854 =>
    some (r4854.1, r4854.2.1, r4854.2.2))) fun o4820 =>
    bif o4820.1 then some (.inl (w64 (s4762.1 + 1), o4820.2.1, o4820.2.2))
    else some (.inr (s4762.1, o4820.2.1, o4820.2.2))) gxFuel (0, r3773, r3991)) fun out4769 =>
  some (out4769.2.1, out4769.2.2, out4769.1, true))
def M.l_eqIntS (x4889 : List Int) (x4894 : List Int) : Option (Bool) :=
  bif (x4889.length : Int) != (x4894.length : Int) then some false
  else (Option.bind (whileM (σ := Int) (ρ := (Unit) ⊕ (Bool)) (fun s4912 =>
    bif decide (s4912 < (x4889.length : Int)) then (Option.bind (gxIdx x4889 s4912) fun y4924 =>
    Option.bind (gxIdx x4894 s4912) fun y4925 =>
    bif y4924 != y4925 then some (.inr (.inr false))
    else some (.inl (w64 (s4912 + 1))))
    else some (.inr (.inl ()))) gxFuel 0) fun out4919 => Sum.elim (fun (o4922 : Unit) =>
  some true) (fun r => some r) out4919)
def M.l_eqBalloon (x4966 : Balloon) (x4971 : Balloon) : Option (Bool) :=
  bif x4966.Guest != x4971.Guest then some false
  else (bif x4966.Goal != x4971.Goal then some false
  else (Option.bind (M.l_eqIntS x4966.Gave x4971.Gave) fun r4986 =>
  bif !r4986 then some false
  else some true))
def M.l_eqBalloonS (x4938 : List Balloon) (x4943 : List Balloon) : Option (Bool) :=
  bif (x4938.length : Int) != (x4943.length : Int) then some false
  else (Option.bind (whileM (σ := Int) (ρ := (Unit) ⊕ (Bool)) (fun s5022 =>
    bif decide (s5022 < (x4938.length : Int)) then (Option.bind (gxIdx x4938 s5022) fun y5034 =>
    Option.bind (gxIdx x4943 s5022) fun y5042 =>
    Option.bind (M.l_eqBalloon y5034 y5042) fun r5050 =>
    bif !r5050 then some (.inr (.inr false))
    else some (.inl (w64 (s5022 + 1))))
    else some (.inr (.inl ()))) gxFuel 0) fun out5029 => Sum.elim (fun (o5032 : Unit) =>
  some true) (fun r => some r) out5029)
def M.l_markIntS (x5115 : List Int) (x5121 : Int) : Option (Int × (List Int)) :=
  Option.bind (whileM (σ := Int × Int × List Int) (ρ := Int × List Int) (fun s5138 =>
    bif decide (s5138.2.1 < (s5138.2.2.length : Int)) then (Option.bind (gxIdx s5138.2.2 s5138.2.1) fun y5156 =>
    some (.inl (w64 (s5138.1 + 1), w64 (s5138.2.1 + 1), (s5138.2.2.set s5138.2.1.toNat s5138.1))))
    else some (.inr (s5138.1, s5138.2.2))) gxFuel (x5121, 0, x5115)) fun out5145 =>
  some (out5145.1, out5145.2)
def M.l_markBalloonS (x5172 : List Balloon) (x5179 : Int) : Option (Int × (List Balloon)) :=
  Option.bind (whileM (σ := Int × Int × List Balloon) (ρ := Int × List Balloon) (fun s5312 =>
    bif decide (s5312.2.1 < (s5312.2.2.length : Int)) then (Option.bind (gxIdx s5312.2.2 s5312.2.1) fun y5332 =>
    Option.bind (gxIdx (s5312.2.2.set s5312.2.1.toNat (⟨s5312.1, y5332.Goal, y5332.Gave⟩ : Balloon)) s5312.2.1) fun y5346 =>
    Option.bind (gxIdx ((s5312.2.2.set s5312.2.1.toNat (⟨s5312.1, y5332.Goal, y5332.Gave⟩ : Balloon)).set s5312.2.1.toNat (⟨y5346.Guest, w64 (s5312.1 + 1), y5346.Gave⟩ : Balloon)) s5312.2.1) fun y5360 =>
    Option.bind (M.l_markIntS y5360.Gave (w64 ((w64 (s5312.1 + 1)) + 1))) fun r5368 =>
    some (.inl (r5368.1, w64 (s5312.2.1 + 1), (((s5312.2.2.set s5312.2.1.toNat (⟨s5312.1, y5332.Goal, y5332.Gave⟩ : Balloon)).set s5312.2.1.toNat (⟨y5346.Guest, w64 (s5312.1 + 1), y5346.Gave⟩ : Balloon)).set s5312.2.1.toNat (⟨y5360.Guest, y5360.Goal, r5368.2⟩ : Balloon)))))
    else some (.inr (s5312.1, s5312.2.2))) gxFuel (x5179, 0, x5172)) fun out5319 =>
  some (out5319.1, out5319.2)
def M.l_heldIntS (x5453 : List Int) (x5458 : Int) : Option (Int) :=
  Option.bind (whileM (σ := Int × Int) (ρ := (Int) ⊕ (Int)) (fun s5465 =>
    bif decide (s5465.2 < (x5453.length : Int)) then (Option.bind (gxIdx x5453 s5465.2) fun y5477 =>
    bif y5477 != s5465.1 then some (.inr (.inr (-1)))
    else some (.inl (w64 (s5465.1 + 1), w64 (s5465.2 + 1))))
    else some (.inr (.inl s5465.1))) gxFuel (x5458, 0)) fun out5472 => Sum.elim (fun (o5475 : Int) =>
  some o5475) (fun r => some r) out5472
def M.l_heldBalloonS (x5488 : List Balloon) (x5493 : Int) : Option (Int) :=
  Option.bind (whileM (σ := Int × Int) (ρ := (Int) ⊕ (Int)) (fun s5542 =>
    bif decide (s5542.2 < (x5488.length : Int)) then (Option.bind (gxIdx x5488 s5542.2) fun y5554 =>
    bif y5554.Guest != s5542.1 then some (.inr (.inr (-1)))
    else (Option.bind (gxIdx x5488 s5542.2) fun y5563 =>
    bif y5563.Goal != (w64 (s5542.1 + 1)) then some (.inr (.inr (-1)))
    else (Option.bind (gxIdx x5488 s5542.2) fun y5568 =>
    Option.bind (M.l_heldIntS y5568.Gave (w64 ((w64 (s5542.1 + 1)) + 1))) fun r5572 =>
    bif decide (r5572 < 0) then some (.inr (.inr (-1)))
    else some (.inl (r5572, w64 (s5542.2 + 1))))))
    else some (.inr (.inl s5542.1))) gxFuel (x5493, 0)) fun out5549 => Sum.elim (fun (o5552 : Int) =>
  some o5552) (fun r => some r) out5549
def M.l_FnExactSettleGuest (x1 : List Int) (x6 : List Balloon) (x11 : Int) : Option (Bool) :=
  bif decide ((x1.length : Int) > 1048576) then some true
  else (Option.bind (M.l_szBalloonS x6 1048576) fun r99 =>
  bif decide (r99 < 0) then some true
  else (Option.bind (M.l_toIntS x1) fun r164 =>
  Option.bind (M.l_toBalloonS x6) fun r382 =>
  Option.bind (M.s_SettleGuest r164 r382 x11) fun r2607 =>
  Option.bind (M.l_toIntS x1) fun r2622 =>
  Option.bind (M.l_toBalloonS x6) fun r2631 =>
  Option.bind (M.i_SettleGuest r2622 r2631 x11) fun r4874 =>
  Option.bind (α := Bool) (Option.bind (M.l_eqIntS r4874.1 r2607.1) fun r5070 =>
  bif !r5070 then some true
  else (Option.bind (M.l_eqBalloonS r4874.2.1 r2607.2.1) fun r5075 =>
  bif !r5075 then some true
  else (bif r4874.2.2.1 != r2607.2.2.1 then some true
  else some (!(r4874.2.2.2 == r2607.2.2.2))))) fun o5067 =>
  bif o5067 then some false
  else (Option.bind (M.l_toIntS x1) fun r5086 =>
  Option.bind (M.l_eqIntS r2622 r5086) fun r5095 =>
  bif !r5095 then some false
  else (Option.bind (M.l_toBalloonS x6) fun r5100 =>
  Option.bind (M.l_eqBalloonS r2631 r5100) fun r5110 =>
  bif !r5110 then some false
  else (Option.bind (M.l_markIntS r2622 1) fun r5165 =>
  Option.bind (M.l_markBalloonS r2631 r5165.1) fun r5398 =>
  Option.bind (α := Bool) (bif decide (r5398.1 < 0) then some true
  else (Option.bind (M.l_eqIntS r4874.1 r2607.1) fun r5422 =>
  bif !r5422 then some true
  else (Option.bind (M.l_eqBalloonS r4874.2.1 r2607.2.1) fun r5427 =>
  bif !r5427 then some true
  else (bif r4874.2.2.1 != r2607.2.2.1 then some true
  else some (!(r4874.2.2.2 == r2607.2.2.2)))))) fun o5418 =>
  bif o5418 then some false
  else (Option.bind (M.l_markIntS r4874.1 1) fun r5438 =>
  Option.bind (M.l_markBalloonS r4874.2.1 r5438.1) fun r5445 =>
  Option.bind (M.l_heldIntS r5438.2 1) fun r5483 =>
  bif decide (r5483 < 0) then some false
  else (Option.bind (M.l_heldBalloonS r5445.2 r5483) fun r5581 =>
  bif decide (r5581 < 0) then some false
  else (bif r5581 != r5445.1 then some false
  else (Option.bind (M.l_toIntS x1) fun r5587 =>
  Option.bind (M.l_toBalloonS x6) fun r5596 =>
  Option.bind (M.i_SettleGuest r5587 r5596 x11) fun r5606 =>
  Option.bind (α := Bool) (Option.bind (M.l_eqIntS r5606.1 r2607.1) fun r5635 =>
  bif !r5635 then some true
  else (Option.bind (M.l_eqBalloonS r5606.2.1 r2607.2.1) fun r5640 =>
  bif !r5640 then some true
  else (bif r5606.2.2.1 != r2607.2.2.1 then some true
  else some (!(r5606.2.2.2 == r2607.2.2.2))))) fun o5632 =>
  bif o5632 then some false
  else (Option.bind (M.l_heldIntS r5438.2 1) fun r5651 =>
  bif decide (r5651 < 0) then some false
  else (Option.bind (M.l_heldBalloonS r5445.2 r5651) fun r5656 =>
  bif decide (r5656 < 0) then some false
  else (bif r5656 != r5445.1 then some false
  else some true))))))))))))
end Go.Proofs.Ytlfligjpmodefaa
