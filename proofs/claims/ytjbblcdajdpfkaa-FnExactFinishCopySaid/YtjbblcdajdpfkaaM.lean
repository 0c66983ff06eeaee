/- The models of the functions, printed by program: what each computes, in plain Lean. -/
import Derived.Test.YtjbblcdajdpfkaaGxG
set_option linter.unusedVariables false
set_option maxRecDepth 100000
set_option maxHeartbeats 4000000
namespace Go.Proofs.Ytjbblcdajdpfkaa
open Go.Gx
structure Copying where
  Memory : List Int
  Copy : List Int
  Dirty : List Bool
structure Store where
  Word : Int
  Value : Int
def encStore : Enc Store := ⟨fun x => [.int .i64 x.Word, .int .i64 x.Value], 2, fun _ => rfl, by simp [Value.oneCell']⟩
structure l1Cur where
  code : List Int
  at_ : Int
  seed : Int
def M.l_szIntS (x36 : List Int) (x41 : Int) : Option (Int) :=
  bif decide ((w64 (x41 - (x36.length : Int))) < 0) then some (-1)
  else some (w64 (x41 - (x36.length : Int)))
def M.l_szBoolS (x53 : List Bool) (x58 : Int) : Option (Int) :=
  bif decide ((w64 (x58 - (x53.length : Int))) < 0) then some (-1)
  else some (w64 (x58 - (x53.length : Int)))
def M.l_szCopying (x18 : Copying) (x31 : Int) : Option (Int) :=
  Option.bind (M.l_szIntS x18.Memory x31) fun r43 =>
  bif decide (r43 < 0) then some (-1)
  else (Option.bind (M.l_szIntS x18.Copy r43) fun r48 =>
  bif decide (r48 < 0) then some (-1)
  else (Option.bind (M.l_szBoolS x18.Dirty r48) fun r60 =>
  bif decide (r60 < 0) then some (-1)
  else some r60))
def M.l_toIntS (x113 : List Int) : Option ((List Int)) :=
  Option.bind (gxMake 8 (x113.length : Int) (0 : Int)) fun mk123 =>
  Option.bind (whileM (σ := Int × List Int) (ρ := List Int) (fun s147 =>
    bif decide (s147.1 < (x113.length : Int)) then (Option.bind (gxIdx x113 s147.1) fun y163 =>
    Option.bind (gxIdx s147.2 s147.1) fun y164 =>
    some (.inl (w64 (s147.1 + 1), (s147.2.set s147.1.toNat y163))))
    else some (.inr s147.2)) gxFuel (0, mk123)) fun out154 =>
  some out154
def M.l_toBoolS (x195 : List Bool) : Option ((List Bool)) :=
  Option.bind (gxMake 1 (x195.length : Int) (false : Bool)) fun mk205 =>
  Option.bind (whileM (σ := Int × List Bool) (ρ := List Bool) (fun s229 =>
    bif decide (s229.1 < (x195.length : Int)) then (Option.bind (gxIdx x195 s229.1) fun y245 =>
    Option.bind (gxIdx s229.2 s229.1) fun y246 =>
    some (.inl (w64 (s229.1 + 1), (s229.2.set s229.1.toNat y245))))
    else some (.inr s229.2)) gxFuel (0, mk205)) fun out236 =>
  some out236
def M.l_toCopying (x70 : Copying) : Option (Copying) :=
  Option.bind (M.l_toIntS x70.Memory) fun r173 =>
  Option.bind (M.l_toIntS x70.Copy) fun r184 =>
  Option.bind (M.l_toBoolS x70.Dirty) fun r255 =>
  some (⟨r173, r184, r255⟩ : Copying)
def M.s_l1In (x329 : Int) (x330 : Int) (x331 : Int) : Option (Bool) :=
  Option.bind (α := Bool) (bif decide (x329 ≥ x330) then some (decide (x329 ≤ x331))
  else some false) fun o333 =>
  some o333
def M.s_l2Word16 (x328 : Int) : Option (Bool) :=
  Option.bind (M.s_l1In x328 0 65535) fun r341 =>
  some r341
def M.s_l19Memory (x321 : List Int) : Option (Bool) :=
  Option.bind (whileM (σ := Int) (ρ := (Unit) ⊕ (Bool)) (fun s357 =>
    bif decide (s357 < (x321.length : Int)) then (Option.bind (gxIdx x321 s357) fun y369 =>
    Option.bind (M.s_l2Word16 y369) fun r370 =>
    bif !r370 then some (.inr (.inr false))
    else some (.inl (w64 (s357 + 1))))
    else some (.inr (.inl ()))) gxFuel 0) fun out364 => Sum.elim (fun (o367 : Unit) =>
  Option.bind (M.s_l1In (x321.length : Int) 1 12) fun r379 =>
  some r379) (fun r => some r) out364
def M.s_l19Good (x304 : Copying) : Option (Bool) :=
  Option.bind (α := Bool) (Option.bind (M.s_l19Memory x304.Memory) fun r397 =>
  bif !r397 then some true
  else (Option.bind (M.s_l19Memory x304.Copy) fun r402 =>
  bif !r402 then some true
  else (bif (x304.Copy.length : Int) != (x304.Memory.length : Int) then some true
  else some ((x304.Dirty.length : Int) != (x304.Memory.length : Int))))) fun o394 =>
  bif o394 then some false
  else (Option.bind (whileM (σ := Int) (ρ := (Unit) ⊕ (Bool)) (fun s463 =>
    bif decide (s463 < (x304.Memory.length : Int)) then (Option.bind (α := Bool) (Option.bind (gxIdx x304.Memory s463) fun y486 =>
    Option.bind (gxIdx x304.Copy s463) fun y487 =>
    bif y486 != y487 then (Option.bind (gxIdx x304.Dirty s463) fun y489 =>
    some (!y489))
    else some false) fun o483 =>
    bif o483 then some (.inr (.inr false))
    else some (.inl (w64 (s463 + 1))))
    else some (.inr (.inl ()))) gxFuel 0) fun out470 => Sum.elim (fun (o473 : Unit) =>
  some true) (fun r => some r) out470)
def M.s_IsCopying (x287 : Copying) : Option (Bool) :=
  Option.bind (M.s_l19Good x287) fun r503 =>
  some r503
def M.i_inside (x561 : Int) (x562 : Int) (x563 : Int) : Option (Bool) :=
  Option.bind (α := Bool) (bif decide (x561 ≥ x562) then some (decide (x561 ≤ x563))
  else some false) fun o565 =>
  some o565
def M.i_isWord16 (x591 : Int) : Option (Bool) :=
  Option.bind (M.i_inside x591 0 65535) fun r592 =>
  some r592
def M.i_isMemory_1 (x590 : Int) : Option (Bool) :=
  Option.bind (M.i_isWord16 x590) fun r596 =>
  some (!r596)
def M.slices_IndexFunc_105__i_isMemory_1 (x583 : List Int) : Option (Int) :=
  Option.bind (whileM (σ := Int) (ρ := (Unit) ⊕ (Int)) (fun s612 =>
    bif decide (s612 < (x583.length : Int)) then (Option.bind (gxIdx x583 s612) fun y624 =>
    Option.bind (M.i_isMemory_1 y624) fun r625 =>
    bif r625 then some (.inr (.inr s612))
    else some (.inl (w64 (s612 + 1))))
    else some (.inr (.inl ()))) gxFuel 0) fun out619 => Sum.elim (fun (o622 : Unit) =>
  some (-1)) (fun r => some r) out619
def M.slices_ContainsFunc_92__i_isMemory_1 (x578 : List Int) : Option (Bool) :=
  Option.bind (M.slices_IndexFunc_105__i_isMemory_1 x578) fun r634 =>
  some (decide (r634 ≥ 0))
def M.i_isMemory (x556 : List Int) : Option (Bool) :=
  Option.bind (α := Bool) (Option.bind (M.i_inside (x556.length : Int) 1 12) fun r645 =>
  bif r645 then (Option.bind (M.slices_ContainsFunc_92__i_isMemory_1 x556) fun r650 =>
  some (!r650))
  else some false) fun o642 =>
  some o642
def M.i_IsCopying (x539 : Copying) : Option (Bool) :=
  Option.bind (α := Bool) (Option.bind (M.i_isMemory x539.Memory) fun r672 =>
  bif !r672 then some true
  else (Option.bind (M.i_isMemory x539.Copy) fun r677 =>
  bif !r677 then some true
  else (bif (x539.Copy.length : Int) != (x539.Memory.length : Int) then some true
  else some ((x539.Dirty.length : Int) != (x539.Memory.length : Int))))) fun o669 =>
  bif o669 then some false
  else (Option.bind (whileM (σ := Int) (ρ := (Unit) ⊕ (Bool)) (fun s720 =>
    bif decide (s720 < (x539.Memory.length : Int)) then (Option.bind (gxIdx x539.Memory s720) fun y732 =>
    Option.bind (α := Bool) (Option.bind (gxIdx x539.Copy s720) fun y739 =>
    bif y739 != y732 then (Option.bind (gxIdx x539.Dirty s720) fun y741 =>
    some (!y741))
    else some false) fun o736 =>
    bif o736 then some (.inr (.inr false))
    else some (.inl (w64 (s720 + 1))))
    else some (.inr (.inl ()))) gxFuel 0) fun out727 => Sum.elim (fun (o730 : Unit) =>
  some true) (fun r => some r) out727)
def M.l_eqIntS (x824 : List Int) (x829 : List Int) : Option (Bool) :=
  bif (x824.length : Int) != (x829.length : Int) then some false
  else (Option.bind (whileM (σ := Int) (ρ := (Unit) ⊕ (Bool)) (fun s847 =>
    bif decide (s847 < (x824.length : Int)) then (Option.bind (gxIdx x824 s847) fun y859 =>
    Option.bind (gxIdx x829 s847) fun y860 =>
    bif y859 != y860 then some (.inr (.inr false))
    else some (.inl (w64 (s847 + 1))))
    else some (.inr (.inl ()))) gxFuel 0) fun out854 => Sum.elim (fun (o857 : Unit) =>
  some true) (fun r => some r) out854)
def M.l_eqBoolS (x878 : List Bool) (x883 : List Bool) : Option (Bool) :=
  bif (x878.length : Int) != (x883.length : Int) then some false
  else (Option.bind (whileM (σ := Int) (ρ := (Unit) ⊕ (Bool)) (fun s901 =>
    bif decide (s901 < (x878.length : Int)) then (Option.bind (gxIdx x878 s901) fun y913 =>
    Option.bind (gxIdx x883 s901) fun y914 =>
    bif !(y913 == y914) then some (.inr (.inr false))
    else some (.inl (w64 (s901 + 1))))
    else some (.inr (.inl ()))) gxFuel 0) fun out908 => Sum.elim (fun (o911 : Unit) =>
  some true) (fun r => some r) out908)
def M.l_eqCopying (x790 : Copying) (x803 : Copying) : Option (Bool) :=
  Option.bind (M.l_eqIntS x790.Memory x803.Memory) fun r868 =>
  bif !r868 then some false
  else (Option.bind (M.l_eqIntS x790.Copy x803.Copy) fun r873 =>
  bif !r873 then some false
  else (Option.bind (M.l_eqBoolS x790.Dirty x803.Dirty) fun r922 =>
  bif !r922 then some false
  else some true))
def M.l_FnExactIsCopying (x1 : Copying) : Option (Bool) :=
  Option.bind (M.l_szCopying x1 1048576) fun r65 =>
  bif decide (r65 < 0) then some true
  else (Option.bind (M.l_toCopying x1) fun r268 =>
  Option.bind (M.s_IsCopying r268) fun r507 =>
  Option.bind (M.l_toCopying x1) fun r511 =>
  Option.bind (M.i_IsCopying r511) fun r751 =>
  bif !(r751 == r507) then some false
  else (Option.bind (M.l_toCopying x1) fun r758 =>
  Option.bind (M.l_eqCopying r511 r758) fun r927 =>
  bif !r927 then some false
  else some true))
def M.s_l1Own (x983 : List Int) : Option ((List Int)) :=
  Option.bind (gxApp 8 ([] : List Int) x983) fun ap1000 =>
  some ap1000
def M.s_StartCopy (x947 : List Int) : Option (Copying × Bool) :=
  Option.bind (M.s_l19Memory x947) fun r971 =>
  bif !r971 then some ((⟨([] : List Int), ([] : List Int), ([] : List Bool)⟩ : Copying), false)
  else (Option.bind (M.s_l1Own x947) fun r1008 =>
  Option.bind (gxMake 8 (x947.length : Int) (0 : Int)) fun mk1014 =>
  Option.bind (whileM (σ := Int × List Bool) (ρ := List Bool) (fun s1112 =>
    bif decide (s1112.1 < (x947.length : Int)) then (Option.bind (gxApp 1 s1112.2 [true]) fun ap1141 =>
    some (.inl (w64 (s1112.1 + 1), ap1141)))
    else some (.inr s1112.2)) gxFuel (0, ([] : List Bool))) fun out1119 =>
  some ((⟨r1008, mk1014, out1119⟩ : Copying), true))
def M.i_copyInts (x1230 : List Int) : Option ((List Int)) :=
  Option.bind (gxApp 8 ([] : List Int) x1230) fun ap1247 =>
  some ap1247
def M.i_StartCopy (x1194 : List Int) : Option (Copying × Bool) :=
  Option.bind (M.i_isMemory x1194) fun r1218 =>
  bif !r1218 then some ((⟨([] : List Int), ([] : List Int), ([] : List Bool)⟩ : Copying), false)
  else (Option.bind (M.i_copyInts x1194) fun r1255 =>
  Option.bind (gxMake 8 (x1194.length : Int) (0 : Int)) fun mk1261 =>
  Option.bind (whileM (σ := Int × List Bool) (ρ := List Bool) (fun s1359 =>
    bif decide (s1359.1 < (x1194.length : Int)) then (Option.bind (gxApp 1 s1359.2 [true]) fun ap1388 =>
    some (.inl (w64 (s1359.1 + 1), ap1388)))
    else some (.inr s1359.2)) gxFuel (0, ([] : List Bool))) fun out1366 =>
  some ((⟨r1255, mk1261, out1366⟩ : Copying), true))
def M.l_markIntS (x1464 : List Int) (x1470 : Int) : Option (Int × (List Int)) :=
  Option.bind (whileM (σ := Int × Int × List Int) (ρ := Int × List Int) (fun s1487 =>
    bif decide (s1487.2.1 < (s1487.2.2.length : Int)) then (Option.bind (gxIdx s1487.2.2 s1487.2.1) fun y1505 =>
    some (.inl (w64 (s1487.1 + 1), w64 (s1487.2.1 + 1), (s1487.2.2.set s1487.2.1.toNat s1487.1))))
    else some (.inr (s1487.1, s1487.2.2))) gxFuel (x1470, 0, x1464)) fun out1494 =>
  some (out1494.1, out1494.2)
def M.l_markBoolS (x1581 : List Bool) (x1587 : Int) : Option (Int × (List Bool)) :=
  Option.bind (whileM (σ := Int × Int × List Bool) (ρ := Int × List Bool) (fun s1604 =>
    bif decide (s1604.2.1 < (s1604.2.2.length : Int)) then (Option.bind (gxIdx s1604.2.2 s1604.2.1) fun y1622 =>
    some (.inl (w64 (s1604.1 + 1), w64 (s1604.2.1 + 1), (s1604.2.2.set s1604.2.1.toNat ((s1604.1.tmod 3) == 0)))))
    else some (.inr (s1604.1, s1604.2.2))) gxFuel (x1587, 0, x1581)) fun out1611 =>
  some (out1611.1, out1611.2)
def M.l_markCopying (x1541 : Copying) (x1557 : Int) : Option (Int × (List Int) × (List Int) × (List Bool)) :=
  Option.bind (M.l_markIntS x1541.Memory x1557) fun r1565 =>
  Option.bind (M.l_markIntS x1541.Copy r1565.1) fun r1573 =>
  Option.bind (M.l_markBoolS x1541.Dirty r1573.1) fun r1631 =>
  some (r1631.1, r1565.2, r1573.2, r1631.2)
def M.l_heldIntS (x1671 : List Int) (x1676 : Int) : Option (Int) :=
  Option.bind (whileM (σ := Int × Int) (ρ := (Int) ⊕ (Int)) (fun s1683 =>
    bif decide (s1683.2 < (x1671.length : Int)) then (Option.bind (gxIdx x1671 s1683.2) fun y1695 =>
    bif y1695 != s1683.1 then some (.inr (.inr (-1)))
    else some (.inl (w64 (s1683.1 + 1), w64 (s1683.2 + 1))))
    else some (.inr (.inl s1683.1))) gxFuel (x1676, 0)) fun out1690 => Sum.elim (fun (o1693 : Int) =>
  some o1693) (fun r => some r) out1690
def M.l_heldBoolS (x1711 : List Bool) (x1716 : Int) : Option (Int) :=
  Option.bind (whileM (σ := Int × Int) (ρ := (Int) ⊕ (Int)) (fun s1723 =>
    bif decide (s1723.2 < (x1711.length : Int)) then (Option.bind (gxIdx x1711 s1723.2) fun y1735 =>
    bif !(y1735 == ((s1723.1.tmod 3) == 0)) then some (.inr (.inr (-1)))
    else some (.inl (w64 (s1723.1 + 1), w64 (s1723.2 + 1))))
    else some (.inr (.inl s1723.1))) gxFuel (x1716, 0)) fun out1730 => Sum.elim (fun (o1733 : Int) =>
  some o1733) (fun r => some r) out1730
def M.l_heldCopying (x1653 : Copying) (x1666 : Int) : Option (Int) :=
  Option.bind (M.l_heldIntS x1653.Memory x1666) fun r1701 =>
  bif decide (r1701 < 0) then some (-1)
  else (Option.bind (M.l_heldIntS x1653.Copy r1701) fun r1706 =>
  bif decide (r1706 < 0) then some (-1)
  else (Option.bind (M.l_heldBoolS x1653.Dirty r1706) fun r1741 =>
  bif decide (r1741 < 0) then some (-1)
  else some r1741))
def M.l_FnExactStartCopy (x932 : List Int) : Option (Bool) :=
  bif decide ((x932.length : Int) > 1048576) then some true
  else (Option.bind (M.l_toIntS x932) fun r938 =>
  Option.bind (M.s_StartCopy r938) fun r1157 =>
  Option.bind (M.l_toIntS x932) fun r1185 =>
  Option.bind (M.i_StartCopy r1185) fun r1404 =>
  Option.bind (α := Bool) (Option.bind (M.l_eqCopying r1404.1 r1157.1) fun r1440 =>
  bif !r1440 then some true
  else some (!(r1404.2 == r1157.2))) fun o1437 =>
  bif o1437 then some false
  else (Option.bind (M.l_toIntS x932) fun r1450 =>
  Option.bind (M.l_eqIntS r1185 r1450) fun r1459 =>
  bif !r1459 then some false
  else (Option.bind (M.l_markIntS r1185 1) fun r1514 =>
  Option.bind (α := Bool) (bif decide (r1514.1 < 0) then some true
  else (Option.bind (M.l_eqCopying r1404.1 r1157.1) fun r1531 =>
  bif !r1531 then some true
  else some (!(r1404.2 == r1157.2)))) fun o1527 =>
  bif o1527 then some false
  else (Option.bind (M.l_markCopying r1404.1 1) fun r1639 =>
  Option.bind (M.l_heldCopying (⟨r1639.2.1, r1639.2.2.1, r1639.2.2.2⟩ : Copying) 1) fun r1746 =>
  bif decide (r1746 < 0) then some false
  else (bif r1746 != r1639.1 then some false
  else (Option.bind (M.l_toIntS x932) fun r1752 =>
  Option.bind (M.i_StartCopy r1752) fun r1761 =>
  Option.bind (α := Bool) (Option.bind (M.l_eqCopying r1761.1 r1157.1) fun r1797 =>
  bif !r1797 then some true
  else some (!(r1761.2 == r1157.2))) fun o1794 =>
  bif o1794 then some false
  else (Option.bind (M.l_heldCopying (⟨r1639.2.1, r1639.2.2.1, r1639.2.2.2⟩ : Copying) 1) fun r1807 =>
  bif decide (r1807 < 0) then some false
  else (bif r1807 != r1639.1 then some false
  else some true))))))))
def M.s_l19Dirty (x1888 : Copying) : Option ((List Int)) :=
  Option.bind (whileM (σ := List Int × Int) (ρ := List Int) (fun s2014 =>
    bif decide (s2014.2 < (x1888.Dirty.length : Int)) then (Option.bind (gxIdx x1888.Dirty s2014.2) fun y2036 =>
    Option.bind (α := List Int) (bif y2036 then (Option.bind (gxApp 8 s2014.1 [s2014.2]) fun ap2069 =>
    some ap2069)
    else some s2014.1) fun o2053 =>
    some (.inl (o2053, w64 (s2014.2 + 1))))
    else some (.inr s2014.1)) gxFuel (([] : List Int), 0)) fun out2021 =>
  some out2021
def M.s_DirtyWords (x1854 : Copying) : Option ((List Int) × Bool) :=
  Option.bind (M.s_l19Good x1854) fun r1876 =>
  bif !r1876 then some (([] : List Int), false)
  else (Option.bind (M.s_l19Dirty x1854) fun r2085 =>
  some (r2085, true))
def M.i_dirtyWords (x2159 : Copying) : Option ((List Int)) :=
  Option.bind (whileM (σ := List Int × Int) (ρ := List Int) (fun s2285 =>
    bif decide (s2285.2 < (x2159.Dirty.length : Int)) then (Option.bind (gxIdx x2159.Dirty s2285.2) fun y2307 =>
    Option.bind (α := List Int) (bif y2307 then (Option.bind (gxApp 8 s2285.1 [s2285.2]) fun ap2340 =>
    some ap2340)
    else some s2285.1) fun o2324 =>
    some (.inl (o2324, w64 (s2285.2 + 1))))
    else some (.inr s2285.1)) gxFuel (([] : List Int), 0)) fun out2292 =>
  some out2292
def M.i_DirtyWords (x2131 : Copying) : Option ((List Int) × Bool) :=
  Option.bind (M.i_IsCopying x2131) fun r2153 =>
  bif !r2153 then some (([] : List Int), false)
  else (Option.bind (M.i_dirtyWords x2131) fun r2356 =>
  some (r2356, true))
def M.l_FnExactDirtyWords (x1813 : Copying) : Option (Bool) :=
  Option.bind (M.l_szCopying x1813 1048576) fun r1830 =>
  bif decide (r1830 < 0) then some true
  else (Option.bind (M.l_toCopying x1813) fun r1835 =>
  Option.bind (M.s_DirtyWords r1835) fun r2094 =>
  Option.bind (M.l_toCopying x1813) fun r2103 =>
  Option.bind (M.i_DirtyWords r2103) fun r2365 =>
  Option.bind (α := Bool) (Option.bind (M.l_eqIntS r2365.1 r2094.1) fun r2382 =>
  bif !r2382 then some true
  else some (!(r2365.2 == r2094.2))) fun o2379 =>
  bif o2379 then some false
  else (Option.bind (M.l_toCopying x1813) fun r2394 =>
  Option.bind (M.l_eqCopying r2103 r2394) fun r2426 =>
  bif !r2426 then some false
  else (Option.bind (M.l_markCopying r2103 1) fun r2431 =>
  Option.bind (α := Bool) (bif decide (r2431.1 < 0) then some true
  else (Option.bind (M.l_eqIntS r2365.1 r2094.1) fun r2455 =>
  bif !r2455 then some true
  else some (!(r2365.2 == r2094.2)))) fun o2451 =>
  bif o2451 then some false
  else (Option.bind (M.l_markIntS r2365.1 1) fun r2465 =>
  Option.bind (M.l_heldIntS r2465.2 1) fun r2472 =>
  bif decide (r2472 < 0) then some false
  else (bif r2472 != r2465.1 then some false
  else (Option.bind (M.l_toCopying x1813) fun r2478 =>
  Option.bind (M.i_DirtyWords r2478) fun r2497 =>
  Option.bind (α := Bool) (Option.bind (M.l_eqIntS r2497.1 r2094.1) fun r2514 =>
  bif !r2514 then some true
  else some (!(r2497.2 == r2094.2))) fun o2511 =>
  bif o2511 then some false
  else (Option.bind (M.l_heldIntS r2465.2 1) fun r2524 =>
  bif decide (r2524 < 0) then some false
  else (bif r2524 != r2465.1 then some false
  else some true))))))))
def M.s_l19Own (x2642 : Copying) : Option (Copying) :=
  Option.bind (M.s_l1Own x2642.Memory) fun r2680 =>
  Option.bind (M.s_l1Own x2642.Copy) fun r2686 =>
  Option.bind (gxApp 1 ([] : List Bool) x2642.Dirty) fun ap2738 =>
  some (⟨r2680, r2686, ap2738⟩ : Copying)
def M.s_l19Round (x2605 : Copying) (x2618 : Int) : Option (Copying × Int) :=
  Option.bind (M.s_l19Own x2605) fun r2751 =>
  Option.bind (whileM (σ := Int × Int × List Int × List Bool) (ρ := Int × List Int × List Bool) (fun s3031 =>
    Option.bind (α := Bool) (bif decide (s3031.2.1 < (x2605.Dirty.length : Int)) then some (decide (s3031.1 < x2618))
    else some false) fun o3051 =>
    bif o3051 then (Option.bind (gxIdx x2605.Dirty s3031.2.1) fun y3060 =>
    Option.bind (α := Int × List Int × List Bool) (bif y3060 then (Option.bind (gxIdx x2605.Memory s3031.2.1) fun y3122 =>
    Option.bind (gxIdx s3031.2.2.1 s3031.2.1) fun y3158 =>
    Option.bind (gxIdx s3031.2.2.2 s3031.2.1) fun y3164 =>
    some (w64 (s3031.1 + 1), (s3031.2.2.1.set s3031.2.1.toNat y3122), (s3031.2.2.2.set s3031.2.1.toNat false)))
    else some (s3031.1, s3031.2.2.1, s3031.2.2.2)) fun o3112 =>
    some (.inl (o3112.1, w64 (s3031.2.1 + 1), o3112.2.1, o3112.2.2)))
    else some (.inr (s3031.1, s3031.2.2.1, s3031.2.2.2))) gxFuel (0, 0, r2751.Copy, r2751.Dirty)) fun out3038 =>
  some ((⟨r2751.Memory, out3038.2.1, out3038.2.2⟩ : Copying), out3038.1)
def M.s_FinishCopy (x2571 : Copying) : Option ((List Int) × Int × Bool) :=
  Option.bind (M.s_l19Good x2571) fun r2593 =>
  bif !r2593 then some (([] : List Int), 0, false)
  else (Option.bind (M.s_l19Round x2571 12) fun r3180 =>
  some (r3180.1.Copy, r3180.2, true))
def M.i_FinishCopy (x3245 : Copying) : Option ((List Int) × Int × Bool) :=
  Option.bind (M.i_IsCopying x3245) fun r3267 =>
  bif !r3267 then some (([] : List Int), 0, false)
  else (Option.bind (M.i_copyInts x3245.Memory) fun r3275 =>
  Option.bind (M.i_dirtyWords x3245) fun r3281 =>
  some (r3275, (r3281.length : Int), true))
def M.l_FnExactFinishCopy (x2530 : Copying) : Option (Bool) :=
  Option.bind (M.l_szCopying x2530 1048576) fun r2547 =>
  bif decide (r2547 < 0) then some true
  else (Option.bind (M.l_toCopying x2530) fun r2552 =>
  Option.bind (M.s_FinishCopy r2552) fun r3208 =>
  Option.bind (M.l_toCopying x2530) fun r3217 =>
  Option.bind (M.i_FinishCopy r3217) fun r3320 =>
  Option.bind (α := Bool) (Option.bind (M.l_eqIntS r3320.1 r3208.1) fun r3338 =>
  bif !r3338 then some true
  else (bif r3320.2.1 != r3208.2.1 then some true
  else some (!(r3320.2.2 == r3208.2.2)))) fun o3335 =>
  bif o3335 then some false
  else (Option.bind (M.l_toCopying x2530) fun r3351 =>
  Option.bind (M.l_eqCopying r3217 r3351) fun r3383 =>
  bif !r3383 then some false
  else (Option.bind (M.l_markCopying r3217 1) fun r3388 =>
  Option.bind (α := Bool) (bif decide (r3388.1 < 0) then some true
  else (Option.bind (M.l_eqIntS r3320.1 r3208.1) fun r3413 =>
  bif !r3413 then some true
  else (bif r3320.2.1 != r3208.2.1 then some true
  else some (!(r3320.2.2 == r3208.2.2))))) fun o3409 =>
  bif o3409 then some false
  else (Option.bind (M.l_markIntS r3320.1 1) fun r3424 =>
  Option.bind (M.l_heldIntS r3424.2 1) fun r3431 =>
  bif decide (r3431 < 0) then some false
  else (bif r3431 != r3424.1 then some false
  else (Option.bind (M.l_toCopying x2530) fun r3437 =>
  Option.bind (M.i_FinishCopy r3437) fun r3456 =>
  Option.bind (α := Bool) (Option.bind (M.l_eqIntS r3456.1 r3208.1) fun r3474 =>
  bif !r3474 then some true
  else (bif r3456.2.1 != r3208.2.1 then some true
  else some (!(r3456.2.2 == r3208.2.2)))) fun o3471 =>
  bif o3471 then some false
  else (Option.bind (M.l_heldIntS r3424.2 1) fun r3485 =>
  bif decide (r3485 < 0) then some false
  else (bif r3485 != r3424.1 then some false
  else some true))))))))
def M.l_toStore (x3536 : Store) : Option (Store) :=
  some x3536
def M.s_l19Store (x3602 : Copying) (x3615 : Store) : Option (Bool) :=
  Option.bind (α := Bool) (Option.bind (M.s_l1In x3615.Word 0 (w64 ((x3602.Memory.length : Int) - 1))) fun r3636 =>
  bif r3636 then (Option.bind (M.s_l2Word16 x3615.Value) fun r3641 =>
  some r3641)
  else some false) fun o3633 =>
  some o3633
def M.s_l19Write (x3675 : Copying) (x3688 : Store) : Option (Copying) :=
  Option.bind (M.s_l19Own x3675) fun r3716 =>
  Option.bind (gxIdx r3716.Memory x3688.Word) fun y3744 =>
  Option.bind (gxIdx r3716.Dirty x3688.Word) fun y3750 =>
  some (⟨(r3716.Memory.set x3688.Word.toNat x3688.Value), r3716.Copy, (r3716.Dirty.set x3688.Word.toNat true)⟩ : Copying)
def M.s_StoreWord (x3556 : Copying) (x3569 : Store) : Option (Copying × Bool) :=
  Option.bind (α := Bool) (Option.bind (M.s_l19Good x3556) fun r3656 =>
  bif !r3656 then some true
  else (Option.bind (M.s_l19Store x3556 x3569) fun r3661 =>
  some (!r3661))) fun o3653 =>
  bif o3653 then some ((⟨([] : List Int), ([] : List Int), ([] : List Bool)⟩ : Copying), false)
  else (Option.bind (M.s_l19Write x3556 x3569) fun r3758 =>
  some (r3758, true))
def M.i_isStore (x3925 : Copying) (x3938 : Store) : Option (Bool) :=
  Option.bind (α := Bool) (Option.bind (M.i_inside x3938.Word 0 (w64 ((x3925.Memory.length : Int) - 1))) fun r3959 =>
  bif r3959 then (Option.bind (M.i_isWord16 x3938.Value) fun r3964 =>
  some r3964)
  else some false) fun o3956 =>
  some o3956
def M.i_newCopying (x3998 : Copying) : Option (Copying) :=
  Option.bind (M.i_copyInts x3998.Memory) fun r4036 =>
  Option.bind (M.i_copyInts x3998.Copy) fun r4042 =>
  Option.bind (gxApp 1 ([] : List Bool) x3998.Dirty) fun ap4094 =>
  some (⟨r4036, r4042, ap4094⟩ : Copying)
def M.i_Copying_store (x4135 : Copying) (x4153 : Store) : Option ((List Int) × (List Int) × (List Bool)) :=
  Option.bind (gxIdx x4135.Memory x4153.Word) fun y4169 =>
  Option.bind (gxIdx x4135.Dirty x4153.Word) fun y4242 =>
  some ((x4135.Memory.set x4153.Word.toNat x4153.Value), x4135.Copy, (x4135.Dirty.set x4153.Word.toNat true))
def M.i_StoreWord (x3879 : Copying) (x3892 : Store) : Option (Copying × Bool) :=
  Option.bind (α := Bool) (Option.bind (M.i_IsCopying x3879) fun r3979 =>
  bif !r3979 then some true
  else (Option.bind (M.i_isStore x3879 x3892) fun r3984 =>
  some (!r3984))) fun o3976 =>
  bif o3976 then some ((⟨([] : List Int), ([] : List Int), ([] : List Bool)⟩ : Copying), false)
  else (Option.bind (M.i_newCopying x3879) fun r4107 =>
  Option.bind (M.i_Copying_store r4107 x3892) fun r4248 =>
  some ((⟨r4248.1, r4248.2.1, r4248.2.2⟩ : Copying), true))
def M.l_FnExactStoreWord (x3491 : Copying) (x3504 : Store) : Option (Bool) :=
  Option.bind (M.l_szCopying x3491 1048576) fun r3513 =>
  bif decide (r3513 < 0) then some true
  else (Option.bind (M.l_toCopying x3491) fun r3520 =>
  Option.bind (M.l_toStore x3504) fun r3555 =>
  Option.bind (M.s_StoreWord r3520 r3555) fun r3779 =>
  Option.bind (M.l_toCopying x3491) fun r3848 =>
  Option.bind (M.l_toStore x3504) fun r3878 =>
  Option.bind (M.i_StoreWord r3848 r3878) fun r4269 =>
  Option.bind (α := Bool) (Option.bind (M.l_eqCopying r4269.1 r3779.1) fun r4340 =>
  bif !r4340 then some true
  else some (!(r4269.2 == r3779.2))) fun o4337 =>
  bif o4337 then some false
  else (Option.bind (M.l_toCopying x3491) fun r4352 =>
  Option.bind (M.l_eqCopying r3848 r4352) fun r4384 =>
  bif !r4384 then some false
  else (Option.bind (M.l_markCopying r3848 1) fun r4389 =>
  Option.bind (α := Bool) (bif decide (r4389.1 < 0) then some true
  else (Option.bind (M.l_eqCopying r4269.1 r3779.1) fun r4413 =>
  bif !r4413 then some true
  else some (!(r4269.2 == r3779.2)))) fun o4409 =>
  bif o4409 then some false
  else (Option.bind (M.l_markCopying r4269.1 1) fun r4423 =>
  Option.bind (M.l_heldCopying (⟨r4423.2.1, r4423.2.2.1, r4423.2.2.2⟩ : Copying) 1) fun r4437 =>
  bif decide (r4437 < 0) then some false
  else (bif r4437 != r4423.1 then some false
  else (Option.bind (M.l_toCopying x3491) fun r4445 =>
  Option.bind (M.l_toStore x3504) fun r4461 =>
  Option.bind (M.i_StoreWord r4445 r4461) fun r4462 =>
  Option.bind (α := Bool) (Option.bind (M.l_eqCopying r4462.1 r3779.1) fun r4539 =>
  bif !r4539 then some true
  else some (!(r4462.2 == r3779.2))) fun o4536 =>
  bif o4536 then some false
  else (Option.bind (M.l_heldCopying (⟨r4423.2.1, r4423.2.2.1, r4423.2.2.2⟩ : Copying) 1) fun r4549 =>
  bif decide (r4549 < 0) then some false
  else (bif r4549 != r4423.1 then some false
  else some true))))))))
def M.s_CopyRound (x4597 : Copying) (x4610 : Int) : Option (Copying × Int × Bool) :=
  Option.bind (α := Bool) (Option.bind (M.s_l19Good x4597) fun r4646 =>
  bif !r4646 then some true
  else (Option.bind (M.s_l1In x4610 0 12) fun r4651 =>
  some (!r4651))) fun o4643 =>
  bif o4643 then some ((⟨([] : List Int), ([] : List Int), ([] : List Bool)⟩ : Copying), 0, false)
  else (Option.bind (M.s_l19Round x4597 x4610) fun r4665 =>
  some (r4665.1, r4665.2, true))
def M.i_Copying_round (x4847 : Copying) (x4865 : Int) : Option (Int × (List Int) × (List Int) × (List Bool)) :=
  Option.bind (whileM (σ := Int × Int × List Int × List Bool) (ρ := Int × List Int × List Bool) (fun s5303 =>
    bif decide (s5303.2.1 < (x4847.Dirty.length : Int)) then (Option.bind (gxIdx s5303.2.2.2 s5303.2.1) fun y5323 =>
    Option.bind (α := Bool) (bif y5323 then some (decide (s5303.1 < x4865))
    else some false) fun o5325 =>
    Option.bind (α := Int × List Int × List Bool) (bif o5325 then (Option.bind (gxIdx x4847.Memory s5303.2.1) fun y5438 =>
    Option.bind (gxIdx s5303.2.2.1 s5303.2.1) fun y5439 =>
    Option.bind (gxIdx s5303.2.2.2 s5303.2.1) fun y5524 =>
    some (w64 (s5303.1 + 1), (s5303.2.2.1.set s5303.2.1.toNat y5438), (s5303.2.2.2.set s5303.2.1.toNat false)))
    else some (s5303.1, s5303.2.2.1, s5303.2.2.2)) fun o5428 =>
    some (.inl (o5428.1, w64 (s5303.2.1 + 1), o5428.2.1, o5428.2.2)))
    else some (.inr (s5303.1, s5303.2.2.1, s5303.2.2.2))) gxFuel (0, 0, x4847.Copy, x4847.Dirty)) fun out5310 =>
  some (out5310.1, x4847.Memory, out5310.2.1, out5310.2.2)
def M.i_CopyRound (x4751 : Copying) (x4764 : Int) : Option (Copying × Int × Bool) :=
  Option.bind (α := Bool) (Option.bind (M.i_IsCopying x4751) fun r4800 =>
  bif !r4800 then some true
  else (Option.bind (M.i_inside x4764 0 12) fun r4805 =>
  some (!r4805))) fun o4797 =>
  bif o4797 then some ((⟨([] : List Int), ([] : List Int), ([] : List Bool)⟩ : Copying), 0, false)
  else (Option.bind (M.i_newCopying x4751) fun r4819 =>
  Option.bind (M.i_Copying_round r4819 x4764) fun r5538 =>
  some ((⟨r5538.2.1, r5538.2.2.1, r5538.2.2.2⟩ : Copying), r5538.1, true))
def M.l_FnExactCopyRound (x4555 : Copying) (x4568 : Int) : Option (Bool) :=
  Option.bind (M.l_szCopying x4555 1048576) fun r4573 =>
  bif decide (r4573 < 0) then some true
  else (Option.bind (M.l_toCopying x4555) fun r4578 =>
  Option.bind (M.s_CopyRound r4578 x4568) fun r4695 =>
  Option.bind (M.l_toCopying x4555) fun r4723 =>
  Option.bind (M.i_CopyRound r4723 x4568) fun r5559 =>
  Option.bind (α := Bool) (Option.bind (M.l_eqCopying r5559.1 r4695.1) fun r5596 =>
  bif !r5596 then some true
  else (bif r5559.2.1 != r4695.2.1 then some true
  else some (!(r5559.2.2 == r4695.2.2)))) fun o5593 =>
  bif o5593 then some false
  else (Option.bind (M.l_toCopying x4555) fun r5609 =>
  Option.bind (M.l_eqCopying r4723 r5609) fun r5641 =>
  bif !r5641 then some false
  else (Option.bind (M.l_markCopying r4723 1) fun r5646 =>
  Option.bind (α := Bool) (bif decide (r5646.1 < 0) then some true
  else (Option.bind (M.l_eqCopying r5559.1 r4695.1) fun r5671 =>
  bif !r5671 then some true
  else (bif r5559.2.1 != r4695.2.1 then some true
  else some (!(r5559.2.2 == r4695.2.2))))) fun o5667 =>
  bif o5667 then some false
  else (Option.bind (M.l_markCopying r5559.1 1) fun r5682 =>
  Option.bind (M.l_heldCopying (⟨r5682.2.1, r5682.2.2.1, r5682.2.2.2⟩ : Copying) 1) fun r5696 =>
  bif decide (r5696 < 0) then some false
  else (bif r5696 != r5682.1 then some false
  else (Option.bind (M.l_toCopying x4555) fun r5702 =>
  Option.bind (M.i_CopyRound r5702 x4568) fun r5721 =>
  Option.bind (α := Bool) (Option.bind (M.l_eqCopying r5721.1 r4695.1) fun r5758 =>
  bif !r5758 then some true
  else (bif r5721.2.1 != r4695.2.1 then some true
  else some (!(r5721.2.2 == r4695.2.2)))) fun o5755 =>
  bif o5755 then some false
  else (Option.bind (M.l_heldCopying (⟨r5682.2.1, r5682.2.2.1, r5682.2.2.2⟩ : Copying) 1) fun r5769 =>
  bif decide (r5769 < 0) then some false
  else (bif r5769 != r5682.1 then some false
  else some true))))))))
def M.l_vBig (x5816 : List Int) : Option (Bool) :=
  some (decide ((x5816.length : Int) > 65536))
def M.s_l1Cur_next (x5943 : l1Cur) : Option (Int × Int × Int) :=
  Option.bind (α := Int) (bif decide (x5943.at_ < (x5943.code.length : Int)) then (Option.bind (gxIdx x5943.code x5943.at_) fun y5961 =>
  some (w64 y5961))
  else some 0) fun o5957 =>
  bif decide ((w64 (x5943.at_ + 1)) ≤ (x5943.code.length : Int)) then some (o5957, w64 (x5943.at_ + 1), IntKind.u64.wrap ((IntKind.u64.wrap ((IntKind.u64.wrap (x5943.seed * 6364136223846793005)) + (IntKind.u64.wrap o5957))) + 843843))
  else some (w64 (gxAnd .u64 ((IntKind.u64.wrap ((IntKind.u64.wrap ((IntKind.u64.wrap (x5943.seed * 6364136223846793005)) + (IntKind.u64.wrap o5957))) + 843843)).fdiv (2 ^ 40)) 255), w64 (x5943.at_ + 1), IntKind.u64.wrap ((IntKind.u64.wrap ((IntKind.u64.wrap (x5943.seed * 6364136223846793005)) + (IntKind.u64.wrap o5957))) + 843843))
def M.s_l1Cur_pick (x5933 : l1Cur) (x5941 : Int) : Option (Int × Int × Int) :=
  bif decide (x5941 ≤ 1) then some (0, x5933.at_, x5933.seed)
  else (Option.bind (M.s_l1Cur_next x5933) fun r5975 =>
  Option.bind (α := Int × Int × Int) (bif decide (x5941 > 200) then (Option.bind (M.s_l1Cur_next (⟨x5933.code, r5975.2.1, r5975.2.2⟩ : l1Cur)) fun r5988 =>
  some (w64 ((w64 (r5975.1 * 256)) + r5988.1), r5988.2.1, r5988.2.2))
  else some (r5975.1, r5975.2.1, r5975.2.2)) fun o5984 =>
  Option.bind (gxRem o5984.1 x5941) fun q5996 =>
  some (q5996, o5984.2.1, o5984.2.2))
def M.s_l1Cur_among (x6009 : l1Cur) (x6017 : List Int) : Option (Int × Int × Int) :=
  Option.bind (M.s_l1Cur_pick x6009 (x6017.length : Int)) fun r6023 =>
  Option.bind (gxIdx x6017 r6023.1) fun y6027 =>
  some (y6027, r6023.2.1, r6023.2.2)
def M.s_l1Cur_memory (x5913 : l1Cur) : Option ((List Int) × Int × Int) :=
  Option.bind (M.s_l1Cur_pick x5913 8) fun r5997 =>
  Option.bind (whileM (σ := List Int × Int × Int × Int) (ρ := List Int × Int × Int) (fun s6079 =>
    bif decide (s6079.2.1 > 0) then (Option.bind (M.s_l1Cur_among (⟨x5913.code, s6079.2.2.1, s6079.2.2.2⟩ : l1Cur) [0, 0, 1, 2, 255, 4096, 65535]) fun r6108 =>
    Option.bind (gxApp 8 s6079.1 [r6108.1]) fun ap6119 =>
    some (.inl (ap6119, w64 (s6079.2.1 - 1), r6108.2.1, r6108.2.2)))
    else some (.inr (s6079.1, s6079.2.2.1, s6079.2.2.2))) gxFuel (([] : List Int), w64 (1 + r5997.1), r5997.2.1, r5997.2.2)) fun out6086 =>
  Option.bind (M.s_l1Cur_pick (⟨x5913.code, out6086.2.1, out6086.2.2⟩ : l1Cur) 32) fun r6131 =>
  Option.bind (α := List Int × Int × Int × List Int) (bif r6131.1 == 0 then (Option.bind (M.s_l1Cur_among (⟨x5913.code, r6131.2.1, r6131.2.2⟩ : l1Cur) [(-1), 65536]) fun r6586 =>
  Option.bind (gxIdx out6086.1 0) fun y6590 =>
  some ((out6086.1.set (0 : Int).toNat r6586.1), r6586.2.1, r6586.2.2, (out6086.1.set (0 : Int).toNat r6586.1)))
  else (Option.bind (α := List Int × Int × Int) (bif r6131.1 == 1 then some (([] : List Int), r6131.2.1, r6131.2.2)
  else (Option.bind (α := List Int × Int × Int) (bif r6131.1 == 2 then (Option.bind (whileM (σ := List Int × Int × Int) (ρ := List Int × Int × Int) (fun s6958 =>
    Option.bind (M.s_l1Cur_pick (⟨x5913.code, s6958.2.1, s6958.2.2⟩ : l1Cur) 2) fun r6979 =>
    bif decide ((s6958.1.length : Int) < (w64 (12 + r6979.1))) then (Option.bind (gxApp 8 s6958.1 [7]) fun ap6991 =>
    some (.inl (ap6991, r6979.2.1, r6979.2.2)))
    else some (.inr (s6958.1, r6979.2.1, r6979.2.2))) gxFuel (out6086.1, r6131.2.1, r6131.2.2)) fun out6965 =>
  some (out6965.1, out6965.2.1, out6965.2.2))
  else some (out6086.1, r6131.2.1, r6131.2.2)) fun o6904 =>
  some (o6904.1, o6904.2.1, o6904.2.2))) fun o6797 =>
  some (o6797.1, o6797.2.1, o6797.2.2, out6086.1))) fun o6568 =>
  some (o6568.1, o6568.2.1, o6568.2.2.1)
def M.s_l1Cur_one (x7066 : l1Cur) (x7074 : Int) : Option (Bool × Int × Int) :=
  Option.bind (M.s_l1Cur_pick x7066 x7074) fun r7075 =>
  some (r7075.1 == 0, r7075.2.1, r7075.2.2)
def M.l_vInts (x7213 : List Int) (x7218 : List Int) : Option (Bool) :=
  bif (x7213.length : Int) != (x7218.length : Int) then some false
  else (Option.bind (whileM (σ := Int) (ρ := (Unit) ⊕ (Bool)) (fun s7236 =>
    bif decide (s7236 < (x7213.length : Int)) then (Option.bind (gxIdx x7213 s7236) fun y7248 =>
    Option.bind (gxIdx x7218 s7236) fun y7249 =>
    bif y7248 != y7249 then some (.inr (.inr false))
    else some (.inl (w64 (s7236 + 1))))
    else some (.inr (.inl ()))) gxFuel 0) fun out7243 => Sum.elim (fun (o7246 : Unit) =>
  some true) (fun r => some r) out7243)
def M.l_vBools (x7267 : List Bool) (x7272 : List Bool) : Option (Bool) :=
  bif (x7267.length : Int) != (x7272.length : Int) then some false
  else (Option.bind (whileM (σ := Int) (ρ := (Unit) ⊕ (Bool)) (fun s7290 =>
    bif decide (s7290 < (x7267.length : Int)) then (Option.bind (gxIdx x7267 s7290) fun y7302 =>
    Option.bind (gxIdx x7272 s7290) fun y7303 =>
    bif !(y7302 == y7303) then some (.inr (.inr false))
    else some (.inl (w64 (s7290 + 1))))
    else some (.inr (.inl ()))) gxFuel 0) fun out7297 => Sum.elim (fun (o7300 : Unit) =>
  some true) (fun r => some r) out7297)
def M.l_vCopying (x7179 : Copying) (x7192 : Copying) : Option (Bool) :=
  Option.bind (α := Bool) (Option.bind (M.l_vInts x7179.Memory x7192.Memory) fun r7318 =>
  bif r7318 then (Option.bind (M.l_vInts x7179.Copy x7192.Copy) fun r7323 =>
  bif r7323 then (Option.bind (M.l_vBools x7179.Dirty x7192.Dirty) fun r7328 =>
  some r7328)
  else some false)
  else some false) fun o7315 =>
  some o7315
def M.l_vHas (x7443 : List Int) (x7448 : Int) : Option (Bool) :=
  Option.bind (whileM (σ := Int) (ρ := (Unit) ⊕ (Bool)) (fun s7455 =>
    bif decide (s7455 < (x7443.length : Int)) then (Option.bind (gxIdx x7443 s7455) fun y7467 =>
    bif y7467 == x7448 then some (.inr (.inr true))
    else some (.inl (w64 (s7455 + 1))))
    else some (.inr (.inl ()))) gxFuel 0) fun out7462 => Sum.elim (fun (o7465 : Unit) =>
  some false) (fun r => some r) out7462
def M.s_DrawStartCopy (x7473 : List Int) : Option ((List Int)) :=
  Option.bind (M.s_l1Cur_memory (⟨x7473, 0, 0⟩ : l1Cur)) fun r7488 =>
  some r7488.1
def M.l_szStoreS (x7521 : List Store) (x7526 : Int) : Option (Int) :=
  bif decide ((w64 (x7526 - (x7521.length : Int))) < 0) then some (-1)
  else some (w64 (x7526 - (x7521.length : Int)))
def M.l_toStoreS (x7564 : List Store) : Option ((List Store)) :=
  Option.bind (gxMake 16 (x7564.length : Int) ((⟨0, 0⟩ : Store) : Store)) fun mk7574 =>
  Option.bind (whileM (σ := Int × List Store) (ρ := List Store) (fun s7606 =>
    bif decide (s7606.1 < (x7564.length : Int)) then (Option.bind (gxIdx x7564 s7606.1) fun y7622 =>
    Option.bind (M.l_toStore y7622) fun r7623 =>
    Option.bind (gxIdx s7606.2 s7606.1) fun y7627 =>
    some (.inl (w64 (s7606.1 + 1), (s7606.2.set s7606.1.toNat r7623))))
    else some (.inr s7606.2)) gxFuel (0, mk7574)) fun out7613 =>
  some out7613
def M.i_Copying_roundWith (x7654 : Copying) (x7672 : List Store) (x7678 : Int) : Option (Int × (List Int) × (List Int) × (List Bool)) :=
  Option.bind (M.i_Copying_round x7654 x7678) fun r7688 =>
  Option.bind (whileM (σ := Int × List Int × List Int × List Bool) (ρ := List Int × List Int × List Bool) (fun s7776 =>
    bif decide (s7776.1 < (x7672.length : Int)) then (Option.bind (gxIdx x7672 s7776.1) fun y7818 =>
    Option.bind (M.i_Copying_store (⟨s7776.2.1, s7776.2.2.1, s7776.2.2.2⟩ : Copying) y7818) fun r7825 =>
    some (.inl (w64 (s7776.1 + 1), r7825.1, r7825.2.1, r7825.2.2)))
    else some (.inr (s7776.2.1, s7776.2.2.1, s7776.2.2.2))) gxFuel (0, r7688.2.1, r7688.2.2.1, r7688.2.2.2)) fun out7783 =>
  some (r7688.1, out7783.1, out7783.2.1, out7783.2.2)
def M.l_eqStore (x7862 : Store) (x7863 : Store) : Option (Bool) :=
  bif x7862.Word != x7863.Word then some false
  else (bif x7862.Value != x7863.Value then some false
  else some true)
def M.l_eqStoreS (x7848 : List Store) (x7853 : List Store) : Option (Bool) :=
  bif (x7848.length : Int) != (x7853.length : Int) then some false
  else (Option.bind (whileM (σ := Int) (ρ := (Unit) ⊕ (Bool)) (fun s7891 =>
    bif decide (s7891 < (x7848.length : Int)) then (Option.bind (gxIdx x7848 s7891) fun y7903 =>
    Option.bind (gxIdx x7853 s7891) fun y7904 =>
    Option.bind (M.l_eqStore y7903 y7904) fun r7905 =>
    bif !r7905 then some (.inr (.inr false))
    else some (.inl (w64 (s7891 + 1))))
    else some (.inr (.inl ()))) gxFuel 0) fun out7898 => Sum.elim (fun (o7901 : Unit) =>
  some true) (fun r => some r) out7898)
def M.l_markStoreS (x7916 : List Store) (x7922 : Int) : Option (Int × (List Store)) :=
  Option.bind (whileM (σ := Int × Int × List Store) (ρ := Int × List Store) (fun s7949 =>
    bif decide (s7949.2.1 < (s7949.2.2.length : Int)) then (Option.bind (gxIdx s7949.2.2 s7949.2.1) fun y7967 =>
    Option.bind (gxIdx (s7949.2.2.set s7949.2.1.toNat (⟨s7949.1, y7967.Value⟩ : Store)) s7949.2.1) fun y7972 =>
    some (.inl (w64 ((w64 (s7949.1 + 1)) + 1), w64 (s7949.2.1 + 1), ((s7949.2.2.set s7949.2.1.toNat (⟨s7949.1, y7967.Value⟩ : Store)).set s7949.2.1.toNat (⟨y7972.Word, w64 (s7949.1 + 1)⟩ : Store)))))
    else some (.inr (s7949.1, s7949.2.2))) gxFuel (x7922, 0, x7916)) fun out7956 =>
  some (out7956.1, out7956.2)
def M.s_l1Most (x8036 : Int) (x8037 : Int) : Option (Int) :=
  bif decide (x8036 > x8037) then some x8036
  else some x8037
def M.s_l1Cur_storeIn (x7994 : l1Cur) (x8002 : Int) : Option (Store × Int × Int) :=
  Option.bind (M.s_l1Cur_one x7994 32) fun r8007 =>
  bif r8007.1 then (Option.bind (M.s_l1Cur_among (⟨x7994.code, r8007.2.1, r8007.2.2⟩ : l1Cur) [(-1), x8002, 0]) fun r8019 =>
  Option.bind (M.s_l1Cur_among (⟨x7994.code, r8019.2.1, r8019.2.2⟩ : l1Cur) [(-1), 65536]) fun r8030 =>
  some ((⟨r8019.1, r8030.1⟩ : Store), r8030.2.1, r8030.2.2))
  else (Option.bind (M.s_l1Most 1 x8002) fun r8039 =>
  Option.bind (M.s_l1Cur_pick (⟨x7994.code, r8007.2.1, r8007.2.2⟩ : l1Cur) r8039) fun r8043 =>
  Option.bind (M.s_l1Cur_among (⟨x7994.code, r8043.2.1, r8043.2.2⟩ : l1Cur) [0, 1, 5, 300, 65535]) fun r8054 =>
  some ((⟨r8043.1, r8054.1⟩ : Store), r8054.2.1, r8054.2.2))
end Go.Proofs.Ytjbblcdajdpfkaa
