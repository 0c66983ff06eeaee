/- The models of the functions, printed by program: what each computes, in plain Lean. -/
import Derived.Test.YtopnablbecepjaaGxG
set_option linter.unusedVariables false
set_option maxRecDepth 100000
set_option maxHeartbeats 4000000
namespace Go.Proofs.Ytopnablbecepjaa
open Go.Gx
structure Ring where
  Items : List Int
  Head : Int
  Tail : Int
structure l1Cur where
  code : List Int
  at_ : Int
  seed : Int
def M.s_l1In (x8 : Int) (x9 : Int) (x10 : Int) : Option (Bool) :=
  Option.bind (α := Bool) (bif decide (x8 ≥ x9) then some (decide (x8 ≤ x10))
  else some false) fun o12 =>
  some o12
def M.s_l2Word16 (x7 : Int) : Option (Bool) :=
  Option.bind (M.s_l1In x7 0 65535) fun r20 =>
  some r20
def M.s_NeedsSignal (x4 : Int) (x5 : Int) (x6 : Int) : Option (Bool × Bool) :=
  Option.bind (α := Bool) (Option.bind (M.s_l2Word16 x4) fun r41 =>
  bif !r41 then some true
  else (Option.bind (M.s_l2Word16 x5) fun r46 =>
  bif !r46 then some true
  else (Option.bind (M.s_l2Word16 x6) fun r51 =>
  some (!r51)))) fun o38 =>
  bif o38 then some (false, false)
  else some (decide (((w64 ((w64 (x6 - x4)) + 65536)).tmod 65536) < ((w64 ((w64 (x5 - x4)) + 65536)).tmod 65536)), true)
def M.i_inside (x68 : Int) (x69 : Int) (x70 : Int) : Option (Bool) :=
  Option.bind (α := Bool) (bif decide (x68 ≥ x69) then some (decide (x68 ≤ x70))
  else some false) fun o72 =>
  some o72
def M.i_isWord16 (x67 : Int) : Option (Bool) :=
  Option.bind (M.i_inside x67 0 65535) fun r80 =>
  some r80
def M.i_stepsTo (x120 : Int) (x121 : Int) : Option (Int) :=
  some (gxAnd .i64 (w64 (x121 - x120)) 65535)
def M.i_NeedsSignal (x64 : Int) (x65 : Int) (x66 : Int) : Option (Bool × Bool) :=
  Option.bind (α := Bool) (Option.bind (M.i_isWord16 x64) fun r101 =>
  bif !r101 then some true
  else (Option.bind (M.i_isWord16 x65) fun r106 =>
  bif !r106 then some true
  else (Option.bind (M.i_isWord16 x66) fun r111 =>
  some (!r111)))) fun o98 =>
  bif o98 then some (false, false)
  else (Option.bind (M.i_stepsTo x64 x66) fun r122 =>
  Option.bind (M.i_stepsTo x64 x65) fun r126 =>
  some (decide (r122 < r126), true))
def M.l_FnExactNeedsSignal (x1 : Int) (x2 : Int) (x3 : Int) : Option (Bool) :=
  Option.bind (M.s_NeedsSignal x1 x2 x3) fun r60 =>
  Option.bind (M.i_NeedsSignal x1 x2 x3) fun r130 =>
  Option.bind (α := Bool) (bif !(r130.1 == r60.1) then some true
  else some (!(r130.2 == r60.2))) fun o135 =>
  bif o135 then some false
  else some true
def M.s_l20Places (x157 : Int) : Option (Bool) :=
  Option.bind (α := Bool) (bif x157 == 1 then some true
  else (bif x157 == 2 then some true
  else (bif x157 == 4 then some true
  else some (x157 == 8)))) fun o161 =>
  some o161
def M.s_MakeRing (x146 : Int) (x147 : Int) : Option (Ring × Bool) :=
  Option.bind (α := Bool) (Option.bind (M.s_l20Places x146) fun r183 =>
  bif !r183 then some true
  else (Option.bind (M.s_l2Word16 x147) fun r188 =>
  some (!r188))) fun o180 =>
  bif o180 then some ((⟨([] : List Int), 0, 0⟩ : Ring), false)
  else (Option.bind (gxMake 8 x146 (0 : Int)) fun mk200 =>
  some ((⟨mk200, x147, x147⟩ : Ring), true))
def M.i_arePlaces (x238 : Int) : Option (Bool) :=
  Option.bind (α := Bool) (Option.bind (M.i_inside x238 1 8) fun r247 =>
  bif r247 then some ((gxAnd .i64 x238 (w64 (x238 - 1))) == 0)
  else some false) fun o244 =>
  some o244
def M.i_MakeRing (x227 : Int) (x228 : Int) : Option (Ring × Bool) :=
  Option.bind (α := Bool) (Option.bind (M.i_arePlaces x227) fun r268 =>
  bif !r268 then some true
  else (Option.bind (M.i_isWord16 x228) fun r273 =>
  some (!r273))) fun o265 =>
  bif o265 then some ((⟨([] : List Int), 0, 0⟩ : Ring), false)
  else (Option.bind (gxMake 8 x227 (0 : Int)) fun mk285 =>
  some ((⟨mk285, x228, x228⟩ : Ring), true))
def M.l_eqIntS (x330 : List Int) (x335 : List Int) : Option (Bool) :=
  bif (x330.length : Int) != (x335.length : Int) then some false
  else (Option.bind (whileM (σ := Int) (ρ := (Unit) ⊕ (Bool)) (fun s353 =>
    bif decide (s353 < (x330.length : Int)) then (Option.bind (gxIdx x330 s353) fun y365 =>
    Option.bind (gxIdx x335 s353) fun y366 =>
    bif y365 != y366 then some (.inr (.inr false))
    else some (.inl (w64 (s353 + 1))))
    else some (.inr (.inl ()))) gxFuel 0) fun out360 => Sum.elim (fun (o363 : Unit) =>
  some true) (fun r => some r) out360)
def M.l_eqRing (x312 : Ring) (x317 : Ring) : Option (Bool) :=
  Option.bind (M.l_eqIntS x312.Items x317.Items) fun r374 =>
  bif !r374 then some false
  else (bif x312.Head != x317.Head then some false
  else (bif x312.Tail != x317.Tail then some false
  else some true))
def M.l_markIntS (x411 : List Int) (x417 : Int) : Option (Int × (List Int)) :=
  Option.bind (whileM (σ := Int × Int × List Int) (ρ := Int × List Int) (fun s434 =>
    bif decide (s434.2.1 < (s434.2.2.length : Int)) then (Option.bind (gxIdx s434.2.2 s434.2.1) fun y452 =>
    some (.inl (w64 (s434.1 + 1), w64 (s434.2.1 + 1), (s434.2.2.set s434.2.1.toNat s434.1))))
    else some (.inr (s434.1, s434.2.2))) gxFuel (x417, 0, x411)) fun out441 =>
  some (out441.1, out441.2)
def M.l_markRing (x399 : Ring) (x405 : Int) : Option (Int × (List Int)) :=
  Option.bind (M.l_markIntS x399.Items x405) fun r461 =>
  some (r461.1, r461.2)
def M.l_heldIntS (x487 : List Int) (x492 : Int) : Option (Int) :=
  Option.bind (whileM (σ := Int × Int) (ρ := (Int) ⊕ (Int)) (fun s499 =>
    bif decide (s499.2 < (x487.length : Int)) then (Option.bind (gxIdx x487 s499.2) fun y511 =>
    bif y511 != s499.1 then some (.inr (.inr (-1)))
    else some (.inl (w64 (s499.1 + 1), w64 (s499.2 + 1))))
    else some (.inr (.inl s499.1))) gxFuel (x492, 0)) fun out506 => Sum.elim (fun (o509 : Int) =>
  some o509) (fun r => some r) out506
def M.l_heldRing (x477 : Ring) (x482 : Int) : Option (Int) :=
  Option.bind (M.l_heldIntS x477.Items x482) fun r517 =>
  bif decide (r517 < 0) then some (-1)
  else some r517
def M.l_FnExactMakeRing (x144 : Int) (x145 : Int) : Option (Bool) :=
  Option.bind (M.s_MakeRing x144 x145) fun r211 =>
  Option.bind (M.i_MakeRing x144 x145) fun r296 =>
  Option.bind (α := Bool) (Option.bind (M.l_eqRing r296.1 r211.1) fun r389 =>
  bif !r389 then some true
  else some (!(r296.2 == r211.2))) fun o386 =>
  bif o386 then some false
  else (Option.bind (M.l_markRing r296.1 1) fun r469 =>
  Option.bind (M.l_heldRing (⟨r469.2, r296.1.Head, r296.1.Tail⟩ : Ring) 1) fun r522 =>
  bif decide (r522 < 0) then some false
  else (bif r522 != r469.1 then some false
  else (Option.bind (M.i_MakeRing x144 x145) fun r528 =>
  Option.bind (α := Bool) (Option.bind (M.l_eqRing r528.1 r211.1) fun r552 =>
  bif !r552 then some true
  else some (!(r528.2 == r211.2))) fun o549 =>
  bif o549 then some false
  else (Option.bind (M.l_heldRing (⟨r469.2, r296.1.Head, r296.1.Tail⟩ : Ring) 1) fun r562 =>
  bif decide (r562 < 0) then some false
  else (bif r562 != r469.1 then some false
  else some true)))))
def M.l_szIntS (x587 : List Int) (x592 : Int) : Option (Int) :=
  bif decide ((w64 (x592 - (x587.length : Int))) < 0) then some (-1)
  else some (w64 (x592 - (x587.length : Int)))
def M.l_szRing (x577 : Ring) (x582 : Int) : Option (Int) :=
  Option.bind (M.l_szIntS x577.Items x582) fun r594 =>
  bif decide (r594 < 0) then some (-1)
  else some r594
def M.l_toIntS (x627 : List Int) : Option ((List Int)) :=
  Option.bind (gxMake 8 (x627.length : Int) (0 : Int)) fun mk637 =>
  Option.bind (whileM (σ := Int × List Int) (ρ := List Int) (fun s661 =>
    bif decide (s661.1 < (x627.length : Int)) then (Option.bind (gxIdx x627 s661.1) fun y677 =>
    Option.bind (gxIdx s661.2 s661.1) fun y678 =>
    some (.inl (w64 (s661.1 + 1), (s661.2.set s661.1.toNat y677))))
    else some (.inr s661.2)) gxFuel (0, mk637)) fun out668 =>
  some out668
def M.l_toRing (x604 : Ring) : Option (Ring) :=
  Option.bind (M.l_toIntS x604.Items) fun r687 =>
  some (⟨r687, x604.Head, x604.Tail⟩ : Ring)
def M.s_l20Count (x746 : Ring) : Option (Int) :=
  some ((w64 ((w64 (x746.Tail - x746.Head)) + 65536)).tmod 65536)
def M.s_l20Good (x722 : Ring) : Option (Bool) :=
  Option.bind (α := Bool) (Option.bind (M.s_l20Places (x722.Items.length : Int)) fun r762 =>
  bif !r762 then some true
  else (Option.bind (M.s_l2Word16 x722.Head) fun r767 =>
  bif !r767 then some true
  else (Option.bind (M.s_l2Word16 x722.Tail) fun r772 =>
  bif !r772 then some true
  else (Option.bind (M.s_l20Count x722) fun r777 =>
  some (decide (r777 > (x722.Items.length : Int))))))) fun o759 =>
  bif o759 then some false
  else (Option.bind (whileM (σ := Int) (ρ := (Unit) ⊕ (Bool)) (fun s852 =>
    bif decide (s852 < (x722.Items.length : Int)) then (Option.bind (gxRem (w64 (x722.Head + s852)) (x722.Items.length : Int)) fun q864 =>
    Option.bind (gxIdx x722.Items q864) fun y865 =>
    Option.bind (α := Bool) (Option.bind (M.s_l2Word16 y865) fun r881 =>
    bif !r881 then some true
    else (Option.bind (M.s_l20Count x722) fun r886 =>
    bif decide (s852 ≥ r886) then some (y865 != 0)
    else some false)) fun o878 =>
    bif o878 then some (.inr (.inr false))
    else some (.inl (w64 (s852 + 1))))
    else some (.inr (.inl ()))) gxFuel 0) fun out859 => Sum.elim (fun (o862 : Unit) =>
  some true) (fun r => some r) out859)
def M.s_IsRing (x713 : Ring) : Option (Bool) :=
  Option.bind (M.s_l20Good x713) fun r900 =>
  some r900
def M.i_Ring_count (x954 : Ring) : Option (Int) :=
  Option.bind (M.i_stepsTo x954.Head x954.Tail) fun r963 =>
  some r963
def M.i_IsRing (x924 : Ring) : Option (Bool) :=
  Option.bind (α := Bool) (Option.bind (M.i_arePlaces (x924.Items.length : Int)) fun r976 =>
  bif !r976 then some true
  else (Option.bind (M.i_isWord16 x924.Head) fun r983 =>
  bif !r983 then some true
  else (Option.bind (M.i_isWord16 x924.Tail) fun r990 =>
  bif !r990 then some true
  else (Option.bind (M.i_Ring_count x924) fun r997 =>
  some (decide (r997 > (x924.Items.length : Int))))))) fun o973 =>
  bif o973 then some false
  else (Option.bind (whileM (σ := Int) (ρ := (Unit) ⊕ (Bool)) (fun s1112 =>
    bif decide (s1112 < (x924.Items.length : Int)) then (Option.bind (gxIdx x924.Items s1112) fun y1124 =>
    Option.bind (α := Bool) (Option.bind (M.i_isWord16 y1124) fun r1149 =>
    bif !r1149 then some true
    else (bif y1124 != 0 then (Option.bind (M.i_stepsTo x924.Head s1112) fun r1157 =>
    Option.bind (gxRem r1157 (x924.Items.length : Int)) fun q1161 =>
    Option.bind (M.i_Ring_count x924) fun r1162 =>
    some (decide (q1161 ≥ r1162)))
    else some false)) fun o1146 =>
    bif o1146 then some (.inr (.inr false))
    else some (.inl (w64 (s1112 + 1))))
    else some (.inr (.inl ()))) gxFuel 0) fun out1119 => Sum.elim (fun (o1122 : Unit) =>
  some true) (fun r => some r) out1119)
def M.l_FnExactIsRing (x568 : Ring) : Option (Bool) :=
  Option.bind (M.l_szRing x568 1048576) fun r599 =>
  bif decide (r599 < 0) then some true
  else (Option.bind (M.l_toRing x568) fun r704 =>
  Option.bind (M.s_IsRing r704) fun r904 =>
  Option.bind (M.l_toRing x568) fun r908 =>
  Option.bind (M.i_IsRing r908) fun r1179 =>
  bif !(r1179 == r904) then some false
  else (Option.bind (M.l_toRing x568) fun r1186 =>
  Option.bind (M.l_eqRing r908 r1186) fun r1208 =>
  bif !r1208 then some false
  else some true))
def M.s_l20Words (x1262 : Ring) : Option ((List Int)) :=
  Option.bind (whileM (σ := List Int × Int) (ρ := List Int) (fun s1450 =>
    Option.bind (M.s_l20Count x1262) fun r1471 =>
    bif decide (s1450.2 < r1471) then (Option.bind (gxRem (w64 (x1262.Head + s1450.2)) (x1262.Items.length : Int)) fun q1478 =>
    Option.bind (gxIdx x1262.Items q1478) fun y1479 =>
    Option.bind (gxApp 8 s1450.1 [y1479]) fun ap1544 =>
    some (.inl (ap1544, w64 (s1450.2 + 1))))
    else some (.inr s1450.1)) gxFuel (([] : List Int), 0)) fun out1457 =>
  some out1457
def M.s_RingWords (x1236 : Ring) : Option ((List Int) × Bool) :=
  Option.bind (M.s_l20Good x1236) fun r1250 =>
  bif !r1250 then some (([] : List Int), false)
  else (Option.bind (M.s_l20Words x1236) fun r1556 =>
  some (r1556, true))
def M.i_ringWords (x1610 : Ring) : Option ((List Int)) :=
  Option.bind (M.i_Ring_count x1610) fun r1631 =>
  Option.bind (whileM (σ := List Int × Int) (ρ := List Int) (fun s1794 =>
    bif decide (s1794.2 < r1631) then (Option.bind (gxRem (w64 (x1610.Head + s1794.2)) (x1610.Items.length : Int)) fun q1818 =>
    Option.bind (gxIdx x1610.Items q1818) fun y1819 =>
    Option.bind (gxApp 8 s1794.1 [y1819]) fun ap1884 =>
    some (.inl (ap1884, w64 (s1794.2 + 1))))
    else some (.inr s1794.1)) gxFuel (([] : List Int), 0)) fun out1801 =>
  some out1801
def M.i_RingWords (x1590 : Ring) : Option ((List Int) × Bool) :=
  Option.bind (M.i_IsRing x1590) fun r1604 =>
  bif !r1604 then some (([] : List Int), false)
  else (Option.bind (M.i_ringWords x1590) fun r1896 =>
  some (r1896, true))
def M.l_FnExactRingWords (x1213 : Ring) : Option (Bool) :=
  Option.bind (M.l_szRing x1213 1048576) fun r1222 =>
  bif decide (r1222 < 0) then some true
  else (Option.bind (M.l_toRing x1213) fun r1227 =>
  Option.bind (M.s_RingWords r1227) fun r1565 =>
  Option.bind (M.l_toRing x1213) fun r1574 =>
  Option.bind (M.i_RingWords r1574) fun r1905 =>
  Option.bind (α := Bool) (Option.bind (M.l_eqIntS r1905.1 r1565.1) fun r1922 =>
  bif !r1922 then some true
  else some (!(r1905.2 == r1565.2))) fun o1919 =>
  bif o1919 then some false
  else (Option.bind (M.l_toRing x1213) fun r1934 =>
  Option.bind (M.l_eqRing r1574 r1934) fun r1956 =>
  bif !r1956 then some false
  else (Option.bind (M.l_markRing r1574 1) fun r1961 =>
  Option.bind (α := Bool) (bif decide (r1961.1 < 0) then some true
  else (Option.bind (M.l_eqIntS r1905.1 r1565.1) fun r1979 =>
  bif !r1979 then some true
  else some (!(r1905.2 == r1565.2)))) fun o1975 =>
  bif o1975 then some false
  else (Option.bind (M.l_markIntS r1905.1 1) fun r1989 =>
  Option.bind (M.l_heldIntS r1989.2 1) fun r1996 =>
  bif decide (r1996 < 0) then some false
  else (bif r1996 != r1989.1 then some false
  else (Option.bind (M.l_toRing x1213) fun r2002 =>
  Option.bind (M.i_RingWords r2002) fun r2011 =>
  Option.bind (α := Bool) (Option.bind (M.l_eqIntS r2011.1 r1565.1) fun r2028 =>
  bif !r2028 then some true
  else some (!(r2011.2 == r1565.2))) fun o2025 =>
  bif o2025 then some false
  else (Option.bind (M.l_heldIntS r1989.2 1) fun r2038 =>
  bif decide (r2038 < 0) then some false
  else (bif r2038 != r1989.1 then some false
  else some true))))))))
def M.s_l1Own (x2122 : List Int) : Option ((List Int)) :=
  Option.bind (gxApp 8 ([] : List Int) x2122) fun ap2139 =>
  some ap2139
def M.s_l20Take (x2217 : Ring) : Option (Ring × Int) :=
  Option.bind (M.s_l1Own x2217.Items) fun r2237 =>
  Option.bind (M.s_l20Count x2217) fun r2289 =>
  bif r2289 == 0 then some ((⟨r2237, x2217.Head, x2217.Tail⟩ : Ring), (-1))
  else (Option.bind (gxRem x2217.Head (x2217.Items.length : Int)) fun q2296 =>
  Option.bind (gxIdx r2237 q2296) fun y2297 =>
  Option.bind (gxIdx x2217.Items q2296) fun y2307 =>
  some ((⟨(r2237.set q2296.toNat 0), (w64 (x2217.Head + 1)).tmod 65536, x2217.Tail⟩ : Ring), y2307))
def M.s_TakeWords (x2068 : Ring) (x2073 : Int) : Option (Ring × (List Int) × Bool) :=
  Option.bind (α := Bool) (Option.bind (M.s_l20Good x2068) fun r2107 =>
  bif !r2107 then some true
  else some (decide (x2073 < 0))) fun o2104 =>
  bif o2104 then some ((⟨([] : List Int), 0, 0⟩ : Ring), ([] : List Int), false)
  else (Option.bind (M.s_l1Own x2068.Items) fun r2147 =>
  Option.bind (whileM (σ := List Int × List Int × Int × Int) (ρ := List Int × List Int × Int × Int) (fun s2434 =>
    Option.bind (α := Bool) (bif decide ((s2434.1.length : Int) < x2073) then (Option.bind (M.s_l20Count (⟨s2434.2.1, s2434.2.2.1, s2434.2.2.2⟩ : Ring)) fun r2474 =>
    some (decide (r2474 > 0)))
    else some false) fun o2470 =>
    bif o2470 then (Option.bind (M.s_l20Take (⟨s2434.2.1, s2434.2.2.1, s2434.2.2.2⟩ : Ring)) fun r2483 =>
    Option.bind (gxApp 8 s2434.1 [r2483.2]) fun ap2508 =>
    some (.inl (ap2508, r2483.1.Items, r2483.1.Head, r2483.1.Tail)))
    else some (.inr (s2434.1, s2434.2.1, s2434.2.2.1, s2434.2.2.2))) gxFuel (([] : List Int), r2147, x2068.Head, x2068.Tail)) fun out2441 =>
  some ((⟨out2441.2.1, out2441.2.2.1, out2441.2.2.2⟩ : Ring), out2441.1, true))
def M.i_ringOf (x2651 : Int) (x2652 : Int) (x2653 : List Int) : Option (Ring) :=
  Option.bind (gxMake 8 x2651 (0 : Int)) fun mk2667 =>
  Option.bind (whileM (σ := Int × List Int) (ρ := List Int) (fun s2777 =>
    bif decide (s2777.1 < (x2653.length : Int)) then (Option.bind (gxIdx x2653 s2777.1) fun y2793 =>
    Option.bind (gxRem (w64 (x2652 + s2777.1)) x2651) fun q2796 =>
    Option.bind (gxIdx s2777.2 q2796) fun y2832 =>
    some (.inl (w64 (s2777.1 + 1), (s2777.2.set q2796.toNat y2793))))
    else some (.inr s2777.2)) gxFuel (0, mk2667)) fun out2784 =>
  some (⟨out2784, x2652, gxAnd .i64 (w64 (x2652 + (x2653.length : Int))) 65535⟩ : Ring)
def M.i_copyInts (x2916 : List Int) : Option ((List Int)) :=
  Option.bind (gxApp 8 ([] : List Int) x2916) fun ap2933 =>
  some ap2933
def M.i_TakeWords (x2559 : Ring) (x2564 : Int) : Option (Ring × (List Int) × Bool) :=
  Option.bind (α := Bool) (Option.bind (M.i_IsRing x2559) fun r2591 =>
  bif !r2591 then some true
  else some (decide (x2564 < 0))) fun o2588 =>
  bif o2588 then some ((⟨([] : List Int), 0, 0⟩ : Ring), ([] : List Int), false)
  else (Option.bind (M.i_ringWords x2559) fun r2607 =>
  Option.bind (M.i_Ring_count x2559) fun r2613 =>
  Option.bind (gxSlice r2607 (gxMin x2564 r2613) (r2607.length : Int)) fun ys2649 =>
  Option.bind (M.i_ringOf (x2559.Items.length : Int) (gxAnd .i64 (w64 (x2559.Head + (gxMin x2564 r2613))) 65535) ys2649) fun r2844 =>
  Option.bind (gxSlice r2607 0 (gxMin x2564 r2613)) fun ys2850 =>
  Option.bind (M.i_copyInts ys2850) fun r2941 =>
  some (r2844, r2941, true))
def M.l_FnExactTakeWords (x2044 : Ring) (x2049 : Int) : Option (Bool) :=
  Option.bind (M.l_szRing x2044 1048576) fun r2054 =>
  bif decide (r2054 < 0) then some true
  else (Option.bind (M.l_toRing x2044) fun r2059 =>
  Option.bind (M.s_TakeWords r2059 x2049) fun r2522 =>
  Option.bind (M.l_toRing x2044) fun r2543 =>
  Option.bind (M.i_TakeWords r2543 x2049) fun r2952 =>
  Option.bind (α := Bool) (Option.bind (M.l_eqRing r2952.1 r2522.1) fun r2986 =>
  bif !r2986 then some true
  else (Option.bind (M.l_eqIntS r2952.2.1 r2522.2.1) fun r2991 =>
  bif !r2991 then some true
  else some (!(r2952.2.2 == r2522.2.2)))) fun o2983 =>
  bif o2983 then some false
  else (Option.bind (M.l_toRing x2044) fun r3003 =>
  Option.bind (M.l_eqRing r2543 r3003) fun r3025 =>
  bif !r3025 then some false
  else (Option.bind (M.l_markRing r2543 1) fun r3030 =>
  Option.bind (α := Bool) (bif decide (r3030.1 < 0) then some true
  else (Option.bind (M.l_eqRing r2952.1 r2522.1) fun r3053 =>
  bif !r3053 then some true
  else (Option.bind (M.l_eqIntS r2952.2.1 r2522.2.1) fun r3058 =>
  bif !r3058 then some true
  else some (!(r2952.2.2 == r2522.2.2))))) fun o3049 =>
  bif o3049 then some false
  else (Option.bind (M.l_markRing r2952.1 1) fun r3068 =>
  Option.bind (M.l_markIntS r2952.2.1 r3068.1) fun r3076 =>
  Option.bind (M.l_heldRing (⟨r3068.2, r2952.1.Head, r2952.1.Tail⟩ : Ring) 1) fun r3083 =>
  bif decide (r3083 < 0) then some false
  else (Option.bind (M.l_heldIntS r3076.2 r3083) fun r3088 =>
  bif decide (r3088 < 0) then some false
  else (bif r3088 != r3076.1 then some false
  else (Option.bind (M.l_toRing x2044) fun r3094 =>
  Option.bind (M.i_TakeWords r3094 x2049) fun r3103 =>
  Option.bind (α := Bool) (Option.bind (M.l_eqRing r3103.1 r2522.1) fun r3137 =>
  bif !r3137 then some true
  else (Option.bind (M.l_eqIntS r3103.2.1 r2522.2.1) fun r3142 =>
  bif !r3142 then some true
  else some (!(r3103.2.2 == r2522.2.2)))) fun o3134 =>
  bif o3134 then some false
  else (Option.bind (M.l_heldRing (⟨r3068.2, r2952.1.Head, r2952.1.Tail⟩ : Ring) 1) fun r3152 =>
  bif decide (r3152 < 0) then some false
  else (Option.bind (M.l_heldIntS r3076.2 r3152) fun r3157 =>
  bif decide (r3157 < 0) then some false
  else (bif r3157 != r3076.1 then some false
  else some true))))))))))
def M.s_TakeWord (x3186 : Ring) : Option (Ring × Int × Bool) :=
  Option.bind (α := Bool) (Option.bind (M.s_l20Good x3186) fun r3216 =>
  bif !r3216 then some true
  else (Option.bind (M.s_l20Count x3186) fun r3221 =>
  some (r3221 == 0))) fun o3213 =>
  bif o3213 then some ((⟨([] : List Int), 0, 0⟩ : Ring), 0, false)
  else (Option.bind (M.s_l20Take x3186) fun r3233 =>
  some (r3233.1, r3233.2, true))
def M.i_TakeWord (x3283 : Ring) : Option (Ring × Int × Bool) :=
  Option.bind (M.i_TakeWords x3283 1) fun r3301 =>
  Option.bind (α := Bool) (bif !r3301.2.2 then some true
  else some ((r3301.2.1.length : Int) == 0)) fun o3323 =>
  bif o3323 then some ((⟨([] : List Int), 0, 0⟩ : Ring), 0, false)
  else (Option.bind (gxIdx r3301.2.1 0) fun y3337 =>
  some (r3301.1, y3337, true))
def M.l_FnExactTakeWord (x3163 : Ring) : Option (Bool) :=
  Option.bind (M.l_szRing x3163 1048576) fun r3172 =>
  bif decide (r3172 < 0) then some true
  else (Option.bind (M.l_toRing x3163) fun r3177 =>
  Option.bind (M.s_TakeWord r3177) fun r3251 =>
  Option.bind (M.l_toRing x3163) fun r3267 =>
  Option.bind (M.i_TakeWord r3267) fun r3362 =>
  Option.bind (α := Bool) (Option.bind (M.l_eqRing r3362.1 r3251.1) fun r3387 =>
  bif !r3387 then some true
  else (bif r3362.2.1 != r3251.2.1 then some true
  else some (!(r3362.2.2 == r3251.2.2)))) fun o3384 =>
  bif o3384 then some false
  else (Option.bind (M.l_toRing x3163) fun r3400 =>
  Option.bind (M.l_eqRing r3267 r3400) fun r3422 =>
  bif !r3422 then some false
  else (Option.bind (M.l_markRing r3267 1) fun r3427 =>
  Option.bind (α := Bool) (bif decide (r3427.1 < 0) then some true
  else (Option.bind (M.l_eqRing r3362.1 r3251.1) fun r3446 =>
  bif !r3446 then some true
  else (bif r3362.2.1 != r3251.2.1 then some true
  else some (!(r3362.2.2 == r3251.2.2))))) fun o3442 =>
  bif o3442 then some false
  else (Option.bind (M.l_markRing r3362.1 1) fun r3457 =>
  Option.bind (M.l_heldRing (⟨r3457.2, r3362.1.Head, r3362.1.Tail⟩ : Ring) 1) fun r3465 =>
  bif decide (r3465 < 0) then some false
  else (bif r3465 != r3457.1 then some false
  else (Option.bind (M.l_toRing x3163) fun r3471 =>
  Option.bind (M.i_TakeWord r3471) fun r3480 =>
  Option.bind (α := Bool) (Option.bind (M.l_eqRing r3480.1 r3251.1) fun r3505 =>
  bif !r3505 then some true
  else (bif r3480.2.1 != r3251.2.1 then some true
  else some (!(r3480.2.2 == r3251.2.2)))) fun o3502 =>
  bif o3502 then some false
  else (Option.bind (M.l_heldRing (⟨r3457.2, r3362.1.Head, r3362.1.Tail⟩ : Ring) 1) fun r3516 =>
  bif decide (r3516 < 0) then some false
  else (bif r3516 != r3457.1 then some false
  else some true))))))))
def M.s_l20Put (x3666 : Ring) (x3671 : Int) : Option (Ring × Bool) :=
  Option.bind (M.s_l1Own x3666.Items) fun r3687 =>
  Option.bind (M.s_l20Count x3666) fun r3739 =>
  bif r3739 == (x3666.Items.length : Int) then some ((⟨r3687, x3666.Head, x3666.Tail⟩ : Ring), false)
  else (Option.bind (gxRem x3666.Tail (x3666.Items.length : Int)) fun q3750 =>
  Option.bind (gxIdx r3687 q3750) fun y3790 =>
  some ((⟨(r3687.set q3750.toNat x3671), x3666.Head, (w64 (x3666.Tail + 1)).tmod 65536⟩ : Ring), true))
def M.s_ResizeRing (x3546 : Ring) (x3551 : Int) : Option (Ring × Bool) :=
  Option.bind (α := Bool) (Option.bind (M.s_l20Good x3546) fun r3582 =>
  bif !r3582 then some true
  else (Option.bind (M.s_l20Places x3551) fun r3587 =>
  bif !r3587 then some true
  else (Option.bind (M.s_l20Count x3546) fun r3592 =>
  some (decide (r3592 > x3551))))) fun o3579 =>
  bif o3579 then some ((⟨([] : List Int), 0, 0⟩ : Ring), false)
  else (Option.bind (gxMake 8 x3551 (0 : Int)) fun mk3606 =>
  Option.bind (M.s_l20Words x3546) fun r3653 =>
  Option.bind (whileM (σ := Int × List Int × Int × Int) (ρ := List Int × Int × Int) (fun s3911 =>
    bif decide (s3911.1 < (r3653.length : Int)) then (Option.bind (gxIdx r3653 s3911.1) fun y3935 =>
    Option.bind (M.s_l20Put (⟨s3911.2.1, s3911.2.2.1, s3911.2.2.2⟩ : Ring) y3935) fun r3936 =>
    some (.inl (w64 (s3911.1 + 1), r3936.1.Items, r3936.1.Head, r3936.1.Tail)))
    else some (.inr (s3911.2.1, s3911.2.2.1, s3911.2.2.2))) gxFuel (0, mk3606, x3546.Head, x3546.Head)) fun out3918 =>
  some ((⟨out3918.1, out3918.2.1, out3918.2.2⟩ : Ring), true))
def M.i_ResizeRing (x4025 : Ring) (x4030 : Int) : Option (Ring × Bool) :=
  Option.bind (α := Bool) (Option.bind (M.i_IsRing x4025) fun r4061 =>
  bif !r4061 then some true
  else (Option.bind (M.i_arePlaces x4030) fun r4066 =>
  bif !r4066 then some true
  else (Option.bind (M.i_Ring_count x4025) fun r4071 =>
  some (decide (r4071 > x4030))))) fun o4058 =>
  bif o4058 then some ((⟨([] : List Int), 0, 0⟩ : Ring), false)
  else (Option.bind (M.i_ringWords x4025) fun r4085 =>
  Option.bind (M.i_ringOf x4030 x4025.Head r4085) fun r4115 =>
  some (r4115, true))
def M.l_FnExactResizeRing (x3522 : Ring) (x3527 : Int) : Option (Bool) :=
  Option.bind (M.l_szRing x3522 1048576) fun r3532 =>
  bif decide (r3532 < 0) then some true
  else (Option.bind (M.l_toRing x3522) fun r3537 =>
  Option.bind (M.s_ResizeRing r3537 x3527) fun r3993 =>
  Option.bind (M.l_toRing x3522) fun r4009 =>
  Option.bind (M.i_ResizeRing r4009 x3527) fun r4126 =>
  Option.bind (α := Bool) (Option.bind (M.l_eqRing r4126.1 r3993.1) fun r4150 =>
  bif !r4150 then some true
  else some (!(r4126.2 == r3993.2))) fun o4147 =>
  bif o4147 then some false
  else (Option.bind (M.l_toRing x3522) fun r4162 =>
  Option.bind (M.l_eqRing r4009 r4162) fun r4184 =>
  bif !r4184 then some false
  else (Option.bind (M.l_markRing r4009 1) fun r4189 =>
  Option.bind (α := Bool) (bif decide (r4189.1 < 0) then some true
  else (Option.bind (M.l_eqRing r4126.1 r3993.1) fun r4207 =>
  bif !r4207 then some true
  else some (!(r4126.2 == r3993.2)))) fun o4203 =>
  bif o4203 then some false
  else (Option.bind (M.l_markRing r4126.1 1) fun r4217 =>
  Option.bind (M.l_heldRing (⟨r4217.2, r4126.1.Head, r4126.1.Tail⟩ : Ring) 1) fun r4225 =>
  bif decide (r4225 < 0) then some false
  else (bif r4225 != r4217.1 then some false
  else (Option.bind (M.l_toRing x3522) fun r4231 =>
  Option.bind (M.i_ResizeRing r4231 x3527) fun r4240 =>
  Option.bind (α := Bool) (Option.bind (M.l_eqRing r4240.1 r3993.1) fun r4264 =>
  bif !r4264 then some true
  else some (!(r4240.2 == r3993.2))) fun o4261 =>
  bif o4261 then some false
  else (Option.bind (M.l_heldRing (⟨r4217.2, r4126.1.Head, r4126.1.Tail⟩ : Ring) 1) fun r4274 =>
  bif decide (r4274 < 0) then some false
  else (bif r4274 != r4217.1 then some false
  else some true))))))))
def M.s_PutWord (x4304 : Ring) (x4309 : Int) : Option (Ring × Bool) :=
  Option.bind (α := Bool) (Option.bind (M.s_l20Good x4304) fun r4335 =>
  bif !r4335 then some true
  else (Option.bind (M.s_l2Word16 x4309) fun r4340 =>
  some (!r4340))) fun o4332 =>
  bif o4332 then some ((⟨([] : List Int), 0, 0⟩ : Ring), false)
  else (Option.bind (M.s_l20Put x4304 x4309) fun r4352 =>
  bif !r4352.2 then some ((⟨([] : List Int), 0, 0⟩ : Ring), false)
  else some (r4352.1, true))
def M.i_PutWords_1 (x4472 : Int) : Option (Bool) :=
  Option.bind (M.i_isWord16 x4472) fun r4473 =>
  some (!r4473)
def M.slices_IndexFunc_79__i_PutWords_1 (x4465 : List Int) : Option (Int) :=
  Option.bind (whileM (σ := Int) (ρ := (Unit) ⊕ (Int)) (fun s4489 =>
    bif decide (s4489 < (x4465.length : Int)) then (Option.bind (gxIdx x4465 s4489) fun y4501 =>
    Option.bind (M.i_PutWords_1 y4501) fun r4502 =>
    bif r4502 then some (.inr (.inr s4489))
    else some (.inl (w64 (s4489 + 1))))
    else some (.inr (.inl ()))) gxFuel 0) fun out4496 => Sum.elim (fun (o4499 : Unit) =>
  some (-1)) (fun r => some r) out4496
def M.slices_ContainsFunc_68__i_PutWords_1 (x4460 : List Int) : Option (Bool) :=
  Option.bind (M.slices_IndexFunc_79__i_PutWords_1 x4460) fun r4511 =>
  some (decide (r4511 ≥ 0))
def M.i_PutWords (x4432 : Ring) (x4437 : List Int) : Option (Ring × Int × Bool) :=
  Option.bind (α := Bool) (Option.bind (M.i_IsRing x4432) fun r4522 =>
  bif !r4522 then some true
  else (Option.bind (M.slices_ContainsFunc_68__i_PutWords_1 x4437) fun r4527 =>
  some r4527)) fun o4519 =>
  bif o4519 then some ((⟨([] : List Int), 0, 0⟩ : Ring), 0, false)
  else (Option.bind (M.i_Ring_count x4432) fun r4539 =>
  Option.bind (M.i_ringWords x4432) fun r4547 =>
  Option.bind (gxSlice x4437 0 (gxMin (x4437.length : Int) (w64 ((x4432.Items.length : Int) - r4539)))) fun ys4553 =>
  Option.bind (gxApp 8 r4547 ys4553) fun ap4555 =>
  Option.bind (M.i_ringOf (x4432.Items.length : Int) x4432.Head ap4555) fun r4561 =>
  some (r4561, gxMin (x4437.length : Int) (w64 ((x4432.Items.length : Int) - r4539)), true))
def M.i_PutWord (x4406 : Ring) (x4411 : Int) : Option (Ring × Bool) :=
  Option.bind (M.i_PutWords x4406 [x4411]) fun r4629 =>
  Option.bind (α := Bool) (bif !r4629.2.2 then some true
  else some (r4629.2.1 == 0)) fun o4646 =>
  bif o4646 then some ((⟨([] : List Int), 0, 0⟩ : Ring), false)
  else some (r4629.1, true)
def M.l_FnExactPutWord (x4280 : Ring) (x4285 : Int) : Option (Bool) :=
  Option.bind (M.l_szRing x4280 1048576) fun r4290 =>
  bif decide (r4290 < 0) then some true
  else (Option.bind (M.l_toRing x4280) fun r4295 =>
  Option.bind (M.s_PutWord r4295 x4285) fun r4374 =>
  Option.bind (M.l_toRing x4280) fun r4390 =>
  Option.bind (M.i_PutWord r4390 x4285) fun r4660 =>
  Option.bind (α := Bool) (Option.bind (M.l_eqRing r4660.1 r4374.1) fun r4684 =>
  bif !r4684 then some true
  else some (!(r4660.2 == r4374.2))) fun o4681 =>
  bif o4681 then some false
  else (Option.bind (M.l_toRing x4280) fun r4696 =>
  Option.bind (M.l_eqRing r4390 r4696) fun r4718 =>
  bif !r4718 then some false
  else (Option.bind (M.l_markRing r4390 1) fun r4723 =>
  Option.bind (α := Bool) (bif decide (r4723.1 < 0) then some true
  else (Option.bind (M.l_eqRing r4660.1 r4374.1) fun r4741 =>
  bif !r4741 then some true
  else some (!(r4660.2 == r4374.2)))) fun o4737 =>
  bif o4737 then some false
  else (Option.bind (M.l_markRing r4660.1 1) fun r4751 =>
  Option.bind (M.l_heldRing (⟨r4751.2, r4660.1.Head, r4660.1.Tail⟩ : Ring) 1) fun r4759 =>
  bif decide (r4759 < 0) then some false
  else (bif r4759 != r4751.1 then some false
  else (Option.bind (M.l_toRing x4280) fun r4765 =>
  Option.bind (M.i_PutWord r4765 x4285) fun r4774 =>
  Option.bind (α := Bool) (Option.bind (M.l_eqRing r4774.1 r4374.1) fun r4798 =>
  bif !r4798 then some true
  else some (!(r4774.2 == r4374.2))) fun o4795 =>
  bif o4795 then some false
  else (Option.bind (M.l_heldRing (⟨r4751.2, r4660.1.Head, r4660.1.Tail⟩ : Ring) 1) fun r4808 =>
  bif decide (r4808 < 0) then some false
  else (bif r4808 != r4751.1 then some false
  else some true))))))))
def M.s_PutWords (x4852 : Ring) (x4857 : List Int) : Option (Ring × Int × Bool) :=
  Option.bind (M.s_l20Good x4852) fun r4875 =>
  bif !r4875 then some ((⟨([] : List Int), 0, 0⟩ : Ring), 0, false)
  else (Option.bind (whileM (σ := Int) (ρ := (Unit) ⊕ (Ring × Int × Bool)) (fun s4903 =>
    bif decide (s4903 < (x4857.length : Int)) then (Option.bind (gxIdx x4857 s4903) fun y4915 =>
    Option.bind (M.s_l2Word16 y4915) fun r4916 =>
    bif !r4916 then some (.inr (.inr ((⟨([] : List Int), 0, 0⟩ : Ring), 0, false)))
    else some (.inl (w64 (s4903 + 1))))
    else some (.inr (.inl ()))) gxFuel 0) fun out4910 => Sum.elim (fun (o4913 : Unit) =>
  Option.bind (M.s_l1Own x4852.Items) fun r4930 =>
  Option.bind (whileM (σ := Int × List Int × Int × Int) (ρ := (List Int × Int × Int) ⊕ (Ring × Int × Bool)) (fun s5121 =>
    bif decide (s5121.1 < (x4857.length : Int)) then (Option.bind (gxIdx x4857 s5121.1) fun y5145 =>
    Option.bind (M.s_l20Put (⟨s5121.2.1, s5121.2.2.1, s5121.2.2.2⟩ : Ring) y5145) fun r5146 =>
    bif !r5146.2 then some (.inr (.inr ((⟨s5121.2.1, s5121.2.2.1, s5121.2.2.2⟩ : Ring), s5121.1, true)))
    else some (.inl (w64 (s5121.1 + 1), r5146.1.Items, r5146.1.Head, r5146.1.Tail)))
    else some (.inr (.inl (s5121.2.1, s5121.2.2.1, s5121.2.2.2)))) gxFuel (0, r4930, x4852.Head, x4852.Tail)) fun out5128 => Sum.elim (fun (o5136 : List Int × Int × Int) =>
  some ((⟨o5136.1, o5136.2.1, o5136.2.2⟩ : Ring), (x4857.length : Int), true)) (fun r => some r) out5128) (fun r => some r) out4910)
def M.l_FnExactPutWords (x4814 : Ring) (x4819 : List Int) : Option (Bool) :=
  bif decide ((x4819.length : Int) > 1048576) then some true
  else (Option.bind (M.l_szRing x4814 1048576) fun r4829 =>
  bif decide (r4829 < 0) then some true
  else (Option.bind (M.l_toRing x4814) fun r4834 =>
  Option.bind (M.l_toIntS x4819) fun r4843 =>
  Option.bind (M.s_PutWords r4834 r4843) fun r5215 =>
  Option.bind (M.l_toRing x4814) fun r5231 =>
  Option.bind (M.l_toIntS x4819) fun r5247 =>
  Option.bind (M.i_PutWords r5231 r5247) fun r5256 =>
  Option.bind (α := Bool) (Option.bind (M.l_eqRing r5256.1 r5215.1) fun r5281 =>
  bif !r5281 then some true
  else (bif r5256.2.1 != r5215.2.1 then some true
  else some (!(r5256.2.2 == r5215.2.2)))) fun o5278 =>
  bif o5278 then some false
  else (Option.bind (M.l_toRing x4814) fun r5294 =>
  Option.bind (M.l_eqRing r5231 r5294) fun r5316 =>
  bif !r5316 then some false
  else (Option.bind (M.l_toIntS x4819) fun r5321 =>
  Option.bind (M.l_eqIntS r5247 r5321) fun r5330 =>
  bif !r5330 then some false
  else (Option.bind (M.l_markRing r5231 1) fun r5335 =>
  Option.bind (M.l_markIntS r5247 r5335.1) fun r5343 =>
  Option.bind (α := Bool) (bif decide (r5343.1 < 0) then some true
  else (Option.bind (M.l_eqRing r5256.1 r5215.1) fun r5361 =>
  bif !r5361 then some true
  else (bif r5256.2.1 != r5215.2.1 then some true
  else some (!(r5256.2.2 == r5215.2.2))))) fun o5357 =>
  bif o5357 then some false
  else (Option.bind (M.l_markRing r5256.1 1) fun r5372 =>
  Option.bind (M.l_heldRing (⟨r5372.2, r5256.1.Head, r5256.1.Tail⟩ : Ring) 1) fun r5380 =>
  bif decide (r5380 < 0) then some false
  else (bif r5380 != r5372.1 then some false
  else (Option.bind (M.l_toRing x4814) fun r5386 =>
  Option.bind (M.l_toIntS x4819) fun r5395 =>
  Option.bind (M.i_PutWords r5386 r5395) fun r5404 =>
  Option.bind (α := Bool) (Option.bind (M.l_eqRing r5404.1 r5215.1) fun r5429 =>
  bif !r5429 then some true
  else (bif r5404.2.1 != r5215.2.1 then some true
  else some (!(r5404.2.2 == r5215.2.2)))) fun o5426 =>
  bif o5426 then some false
  else (Option.bind (M.l_heldRing (⟨r5372.2, r5256.1.Head, r5256.1.Tail⟩ : Ring) 1) fun r5440 =>
  bif decide (r5440 < 0) then some false
  else (bif r5440 != r5372.1 then some false
  else some true))))))))))
def M.l_vBig (x5451 : List Int) : Option (Bool) :=
  some (decide ((x5451.length : Int) > 65536))
def M.s_l1Cur_next (x5498 : l1Cur) : Option (Int × Int × Int) :=
  Option.bind (α := Int) (bif decide (x5498.at_ < (x5498.code.length : Int)) then (Option.bind (gxIdx x5498.code x5498.at_) fun y5516 =>
  some (w64 y5516))
  else some 0) fun o5512 =>
  bif decide ((w64 (x5498.at_ + 1)) ≤ (x5498.code.length : Int)) then some (o5512, w64 (x5498.at_ + 1), IntKind.u64.wrap ((IntKind.u64.wrap ((IntKind.u64.wrap (x5498.seed * 6364136223846793005)) + (IntKind.u64.wrap o5512))) + 843843))
  else some (w64 (gxAnd .u64 ((IntKind.u64.wrap ((IntKind.u64.wrap ((IntKind.u64.wrap (x5498.seed * 6364136223846793005)) + (IntKind.u64.wrap o5512))) + 843843)).fdiv (2 ^ 40)) 255), w64 (x5498.at_ + 1), IntKind.u64.wrap ((IntKind.u64.wrap ((IntKind.u64.wrap (x5498.seed * 6364136223846793005)) + (IntKind.u64.wrap o5512))) + 843843))
def M.s_l1Cur_pick (x5488 : l1Cur) (x5496 : Int) : Option (Int × Int × Int) :=
  bif decide (x5496 ≤ 1) then some (0, x5488.at_, x5488.seed)
  else (Option.bind (M.s_l1Cur_next x5488) fun r5530 =>
  Option.bind (α := Int × Int × Int) (bif decide (x5496 > 200) then (Option.bind (M.s_l1Cur_next (⟨x5488.code, r5530.2.1, r5530.2.2⟩ : l1Cur)) fun r5543 =>
  some (w64 ((w64 (r5530.1 * 256)) + r5543.1), r5543.2.1, r5543.2.2))
  else some (r5530.1, r5530.2.1, r5530.2.2)) fun o5539 =>
  Option.bind (gxRem o5539.1 x5496) fun q5551 =>
  some (q5551, o5539.2.1, o5539.2.2))
def M.s_l1Cur_one (x5479 : l1Cur) (x5487 : Int) : Option (Bool × Int × Int) :=
  Option.bind (M.s_l1Cur_pick x5479 x5487) fun r5552 =>
  some (r5552.1 == 0, r5552.2.1, r5552.2.2)
def M.s_l1Cur_among (x5568 : l1Cur) (x5576 : List Int) : Option (Int × Int × Int) :=
  Option.bind (M.s_l1Cur_pick x5568 (x5576.length : Int)) fun r5582 =>
  Option.bind (gxIdx x5576 r5582.1) fun y5586 =>
  some (y5586, r5582.2.1, r5582.2.2)
def M.s_l1Cur_word16 (x5471 : l1Cur) : Option (Int × Int × Int) :=
  Option.bind (M.s_l1Cur_one x5471 32) fun r5556 =>
  bif r5556.1 then (Option.bind (M.s_l1Cur_among (⟨x5471.code, r5556.2.1, r5556.2.2⟩ : l1Cur) [(-1), 65536]) fun r5587 =>
  some (r5587.1, r5587.2.1, r5587.2.2))
  else (Option.bind (M.s_l1Cur_among (⟨x5471.code, r5556.2.1, r5556.2.2⟩ : l1Cur) [0, 1, 2, 7, 100, 32768, 65534, 65535]) fun r5598 =>
  some (r5598.1, r5598.2.1, r5598.2.2))
def M.s_l1Most (x5619 : Int) (x5620 : Int) : Option (Int) :=
  bif decide (x5619 > x5620) then some x5619
  else some x5620
def M.s_DrawNeedsSignal (x5461 : List Int) : Option (Int × Int × Int) :=
  Option.bind (M.s_l1Cur_word16 (⟨x5461, 0, 0⟩ : l1Cur)) fun r5602 =>
  Option.bind (M.s_l1Cur_one (⟨x5461, r5602.2.1, r5602.2.2⟩ : l1Cur) 3) fun r5606 =>
  bif r5606.1 then (Option.bind (M.s_l1Cur_word16 (⟨x5461, r5606.2.1, r5606.2.2⟩ : l1Cur)) fun r5611 =>
  Option.bind (M.s_l1Cur_word16 (⟨x5461, r5611.2.1, r5611.2.2⟩ : l1Cur)) fun r5615 =>
  some (r5602.1, r5611.1, r5615.1))
  else (Option.bind (M.s_l1Most 0 r5602.1) fun r5622 =>
  Option.bind (M.s_l1Cur_pick (⟨x5461, r5606.2.1, r5606.2.2⟩ : l1Cur) 6) fun r5626 =>
  Option.bind (M.s_l1Cur_pick (⟨x5461, r5626.2.1, r5626.2.2⟩ : l1Cur) 7) fun r5630 =>
  some (r5602.1, (w64 (r5622 + r5626.1)).tmod 65536, (w64 (r5622 + r5630.1)).tmod 65536))
def M.l_vInts (x5852 : List Int) (x5857 : List Int) : Option (Bool) :=
  bif (x5852.length : Int) != (x5857.length : Int) then some false
  else (Option.bind (whileM (σ := Int) (ρ := (Unit) ⊕ (Bool)) (fun s5875 =>
    bif decide (s5875 < (x5852.length : Int)) then (Option.bind (gxIdx x5852 s5875) fun y5887 =>
    Option.bind (gxIdx x5857 s5875) fun y5888 =>
    bif y5887 != y5888 then some (.inr (.inr false))
    else some (.inl (w64 (s5875 + 1))))
    else some (.inr (.inl ()))) gxFuel 0) fun out5882 => Sum.elim (fun (o5885 : Unit) =>
  some true) (fun r => some r) out5882)
def M.l_vRing (x5834 : Ring) (x5839 : Ring) : Option (Bool) :=
  Option.bind (α := Bool) (Option.bind (M.l_vInts x5834.Items x5839.Items) fun r5905 =>
  bif r5905 then (bif x5834.Head == x5839.Head then some (x5834.Tail == x5839.Tail)
  else some false)
  else some false) fun o5902 =>
  some o5902
def M.s_DrawMakeRing (x5915 : List Int) : Option (Int × Int) :=
  Option.bind (M.s_l1Cur_among (⟨x5915, 0, 0⟩ : l1Cur) [1, 2, 4, 8, 0, 3, 16, 4]) fun r5932 =>
  Option.bind (M.s_l1Cur_word16 (⟨x5915, r5932.2.1, r5932.2.2⟩ : l1Cur)) fun r5936 =>
  some (r5932.1, r5936.1)
end Go.Proofs.Ytopnablbecepjaa
