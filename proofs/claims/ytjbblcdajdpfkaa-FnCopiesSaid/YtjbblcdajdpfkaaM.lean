/- The models of the functions, printed by program: what each computes, in plain Lean. -/
import Derived.Test.YtjbblcdajdpfkaaGxI
set_option linter.unusedVariables false
set_option maxRecDepth 100000
set_option maxHeartbeats 4000000
namespace Go.Proofs.Ytjbblcdajdpfkaa
open Go.Gx
structure Copying where
  Memory : List Int
  Copy : List Int
  Dirty : List Bool
structure Store where
  Word : Int
  Value : Int
def encStore : Enc Store := ⟨fun x => [.int .i64 x.Word, .int .i64 x.Value], 2, fun _ => rfl, by simp [Value.oneCell']⟩
structure l1Cur where
  code : List Int
  at_ : Int
  seed : Int
def M.l_szIntS (x36 : List Int) (x41 : Int) : Option (Int) :=
  bif decide ((w64 (x41 - (x36.length : Int))) < 0) then some (-1)
  else some (w64 (x41 - (x36.length : Int)))
def M.l_szBoolS (x53 : List Bool) (x58 : Int) : Option (Int) :=
  bif decide ((w64 (x58 - (x53.length : Int))) < 0) then some (-1)
  else some (w64 (x58 - (x53.length : Int)))
def M.l_szCopying (x18 : Copying) (x31 : Int) : Option (Int) :=
  Option.bind (M.l_szIntS x18.Memory x31) fun r43 =>
  bif decide (r43 < 0) then some (-1)
  else (Option.bind (M.l_szIntS x18.Copy r43) fun r48 =>
  bif decide (r48 < 0) then some (-1)
  else (Option.bind (M.l_szBoolS x18.Dirty r48) fun r60 =>
  bif decide (r60 < 0) then some (-1)
  else some r60))
def M.l_toIntS (x113 : List Int) : Option ((List Int)) :=
  Option.bind (gxMake 8 (x113.length : Int) (0 : Int)) fun mk123 =>
  Option.bind (whileM (σ := Int × List Int) (ρ := List Int) (fun s147 =>
    bif decide (s147.1 < (x113.length : Int)) then (Option.bind (gxIdx x113 s147.1) fun y163 =>
    Option.bind (gxIdx s147.2 s147.1) fun y164 =>
    some (.inl (w64 (s147.1 + 1), (s147.2.set s147.1.toNat y163))))
    else some (.inr s147.2)) gxFuel (0, mk123)) fun out154 =>
  some out154
def M.l_toBoolS (x195 : List Bool) : Option ((List Bool)) :=
  Option.bind (gxMake 1 (x195.length : Int) (false : Bool)) fun mk205 =>
  Option.bind (whileM (σ := Int × List Bool) (ρ := List Bool) (fun s229 =>
    bif decide (s229.1 < (x195.length : Int)) then (Option.bind (gxIdx x195 s229.1) fun y245 =>
    Option.bind (gxIdx s229.2 s229.1) fun y246 =>
    some (.inl (w64 (s229.1 + 1), (s229.2.set s229.1.toNat y245))))
    else some (.inr s229.2)) gxFuel (0, mk205)) fun out236 =>
  some out236
def M.l_toCopying (x70 : Copying) : Option (Copying) :=
  Option.bind (M.l_toIntS x70.Memory) fun r173 =>
  Option.bind (M.l_toIntS x70.Copy) fun r184 =>
  Option.bind (M.l_toBoolS x70.Dirty) fun r255 =>
  some (⟨r173, r184, r255⟩ : Copying)
def M.s_l1In (x329 : Int) (x330 : Int) (x331 : Int) : Option (Bool) :=
  Option.bind (α := Bool) (bif decide (x329 ≥ x330) then some (decide (x329 ≤ x331))
  else some false) fun o333 =>
  some o333
def M.s_l2Word16 (x328 : Int) : Option (Bool) :=
  Option.bind (M.s_l1In x328 0 65535) fun r341 =>
  some r341
def M.s_l19Memory (x321 : List Int) : Option (Bool) :=
  Option.bind (whileM (σ := Int) (ρ := (Unit) ⊕ (Bool)) (fun s357 =>
    bif decide (s357 < (x321.length : Int)) then (Option.bind (gxIdx x321 s357) fun y369 =>
    Option.bind (M.s_l2Word16 y369) fun r370 =>
    bif !r370 then some (.inr (.inr false))
    else some (.inl (w64 (s357 + 1))))
    else some (.inr (.inl ()))) gxFuel 0) fun out364 => Sum.elim (fun (o367 : Unit) =>
  Option.bind (M.s_l1In (x321.length : Int) 1 12) fun r379 =>
  some r379) (fun r => some r) out364
def M.s_l19Good (x304 : Copying) : Option (Bool) :=
  Option.bind (α := Bool) (Option.bind (M.s_l19Memory x304.Memory) fun r397 =>
  bif !r397 then some true
  else (Option.bind (M.s_l19Memory x304.Copy) fun r402 =>
  bif !r402 then some true
  else (bif (x304.Copy.length : Int) != (x304.Memory.length : Int) then some true
  else some ((x304.Dirty.length : Int) != (x304.Memory.length : Int))))) fun o394 =>
  bif o394 then some false
  else (Option.bind (whileM (σ := Int) (ρ := (Unit) ⊕ (Bool)) (fun s463 =>
    bif decide (s463 < (x304.Memory.length : Int)) then (Option.bind (α := Bool) (Option.bind (gxIdx x304.Memory s463) fun y486 =>
    Option.bind (gxIdx x304.Copy s463) fun y487 =>
    bif y486 != y487 then (Option.bind (gxIdx x304.Dirty s463) fun y489 =>
    some (!y489))
    else some false) fun o483 =>
    bif o483 then some (.inr (.inr false))
    else some (.inl (w64 (s463 + 1))))
    else some (.inr (.inl ()))) gxFuel 0) fun out470 => Sum.elim (fun (o473 : Unit) =>
  some true) (fun r => some r) out470)
def M.s_IsCopying (x287 : Copying) : Option (Bool) :=
  Option.bind (M.s_l19Good x287) fun r503 =>
  some r503
def M.i_inside (x561 : Int) (x562 : Int) (x563 : Int) : Option (Bool) :=
  Option.bind (α := Bool) (bif decide (x561 ≥ x562) then some (decide (x561 ≤ x563))
  else some false) fun o565 =>
  some o565
def M.i_isWord16 (x591 : Int) : Option (Bool) :=
  Option.bind (M.i_inside x591 0 65535) fun r592 =>
  some r592
def M.i_isMemory_1 (x590 : Int) : Option (Bool) :=
  Option.bind (M.i_isWord16 x590) fun r596 =>
  some (!r596)
def M.slices_IndexFunc_105__i_isMemory_1 (x583 : List Int) : Option (Int) :=
  Option.bind (whileM (σ := Int) (ρ := (Unit) ⊕ (Int)) (fun s612 =>
    bif decide (s612 < (x583.length : Int)) then (Option.bind (gxIdx x583 s612) fun y624 =>
    Option.bind (M.i_isMemory_1 y624) fun r625 =>
    bif r625 then some (.inr (.inr s612))
    else some (.inl (w64 (s612 + 1))))
    else some (.inr (.inl ()))) gxFuel 0) fun out619 => Sum.elim (fun (o622 : Unit) =>
  some (-1)) (fun r => some r) out619
def M.slices_ContainsFunc_92__i_isMemory_1 (x578 : List Int) : Option (Bool) :=
  Option.bind (M.slices_IndexFunc_105__i_isMemory_1 x578) fun r634 =>
  some (decide (r634 ≥ 0))
def M.i_isMemory (x556 : List Int) : Option (Bool) :=
  Option.bind (α := Bool) (Option.bind (M.i_inside (x556.length : Int) 1 12) fun r645 =>
  bif r645 then (Option.bind (M.slices_ContainsFunc_92__i_isMemory_1 x556) fun r650 =>
  some (!r650))
  else some false) fun o642 =>
  some o642
def M.i_IsCopying (x539 : Copying) : Option (Bool) :=
  Option.bind (α := Bool) (Option.bind (M.i_isMemory x539.Memory) fun r672 =>
  bif !r672 then some true
  else (Option.bind (M.i_isMemory x539.Copy) fun r677 =>
  bif !r677 then some true
  else (bif (x539.Copy.length : Int) != (x539.Memory.length : Int) then some true
  else some ((x539.Dirty.length : Int) != (x539.Memory.length : Int))))) fun o669 =>
  bif o669 then some false
  else (Option.bind (whileM (σ := Int) (ρ := (Unit) ⊕ (Bool)) (fun s720 =>
    bif decide (s720 < (x539.Memory.length : Int)) then (Option.bind (gxIdx x539.Memory s720) fun y732 =>
    Option.bind (α := Bool) (Option.bind (gxIdx x539.Copy s720) fun y739 =>
    bif y739 != y732 then (Option.bind (gxIdx x539.Dirty s720) fun y741 =>
    some (!y741))
    else some false) fun o736 =>
    bif o736 then some (.inr (.inr false))
    else some (.inl (w64 (s720 + 1))))
    else some (.inr (.inl ()))) gxFuel 0) fun out727 => Sum.elim (fun (o730 : Unit) =>
  some true) (fun r => some r) out727)
def M.l_eqIntS (x824 : List Int) (x829 : List Int) : Option (Bool) :=
  bif (x824.length : Int) != (x829.length : Int) then some false
  else (Option.bind (whileM (σ := Int) (ρ := (Unit) ⊕ (Bool)) (fun s847 =>
    bif decide (s847 < (x824.length : Int)) then (Option.bind (gxIdx x824 s847) fun y859 =>
    Option.bind (gxIdx x829 s847) fun y860 =>
    bif y859 != y860 then some (.inr (.inr false))
    else some (.inl (w64 (s847 + 1))))
    else some (.inr (.inl ()))) gxFuel 0) fun out854 => Sum.elim (fun (o857 : Unit) =>
  some true) (fun r => some r) out854)
def M.l_eqBoolS (x878 : List Bool) (x883 : List Bool) : Option (Bool) :=
  bif (x878.length : Int) != (x883.length : Int) then some false
  else (Option.bind (whileM (σ := Int) (ρ := (Unit) ⊕ (Bool)) (fun s901 =>
    bif decide (s901 < (x878.length : Int)) then (Option.bind (gxIdx x878 s901) fun y913 =>
    Option.bind (gxIdx x883 s901) fun y914 =>
    bif !(y913 == y914) then some (.inr (.inr false))
    else some (.inl (w64 (s901 + 1))))
    else some (.inr (.inl ()))) gxFuel 0) fun out908 => Sum.elim (fun (o911 : Unit) =>
  some true) (fun r => some r) out908)
def M.l_eqCopying (x790 : Copying) (x803 : Copying) : Option (Bool) :=
  Option.bind (M.l_eqIntS x790.Memory x803.Memory) fun r868 =>
  bif !r868 then some false
  else (Option.bind (M.l_eqIntS x790.Copy x803.Copy) fun r873 =>
  bif !r873 then some false
  else (Option.bind (M.l_eqBoolS x790.Dirty x803.Dirty) fun r922 =>
  bif !r922 then some false
  else some true))
def M.l_FnExactIsCopying (x1 : Copying) : Option (Bool) :=
  Option.bind (M.l_szCopying x1 1048576) fun r65 =>
  bif decide (r65 < 0) then some true
  else (Option.bind (M.l_toCopying x1) fun r268 =>
  Option.bind (M.s_IsCopying r268) fun r507 =>
  Option.bind (M.l_toCopying x1) fun r511 =>
  Option.bind (M.i_IsCopying r511) fun r751 =>
  bif !(r751 == r507) then some false
  else (Option.bind (M.l_toCopying x1) fun r758 =>
  Option.bind (M.l_eqCopying r511 r758) fun r927 =>
  bif !r927 then some false
  else some true))
def M.s_l1Own (x983 : List Int) : Option ((List Int)) :=
  Option.bind (gxApp 8 ([] : List Int) x983) fun ap1000 =>
  some ap1000
def M.s_StartCopy (x947 : List Int) : Option (Copying × Bool) :=
  Option.bind (M.s_l19Memory x947) fun r971 =>
  bif !r971 then some ((⟨([] : List Int), ([] : List Int), ([] : List Bool)⟩ : Copying), false)
  else (Option.bind (M.s_l1Own x947) fun r1008 =>
  Option.bind (gxMake 8 (x947.length : Int) (0 : Int)) fun mk1014 =>
  Option.bind (whileM (σ := Int × List Bool) (ρ := List Bool) (fun s1112 =>
    bif decide (s1112.1 < (x947.length : Int)) then (Option.bind (gxApp 1 s1112.2 [true]) fun ap1141 =>
    some (.inl (w64 (s1112.1 + 1), ap1141)))
    else some (.inr s1112.2)) gxFuel (0, ([] : List Bool))) fun out1119 =>
  some ((⟨r1008, mk1014, out1119⟩ : Copying), true))
def M.i_copyInts (x1230 : List Int) : Option ((List Int)) :=
  Option.bind (gxApp 8 ([] : List Int) x1230) fun ap1247 =>
  some ap1247
def M.i_StartCopy (x1194 : List Int) : Option (Copying × Bool) :=
  Option.bind (M.i_isMemory x1194) fun r1218 =>
  bif !r1218 then some ((⟨([] : List Int), ([] : List Int), ([] : List Bool)⟩ : Copying), false)
  else (Option.bind (M.i_copyInts x1194) fun r1255 =>
  Option.bind (gxMake 8 (x1194.length : Int) (0 : Int)) fun mk1261 =>
  Option.bind (whileM (σ := Int × List Bool) (ρ := List Bool) (fun s1359 =>
    bif decide (s1359.1 < (x1194.length : Int)) then (Option.bind (gxApp 1 s1359.2 [true]) fun ap1388 =>
    some (.inl (w64 (s1359.1 + 1), ap1388)))
    else some (.inr s1359.2)) gxFuel (0, ([] : List Bool))) fun out1366 =>
  some ((⟨r1255, mk1261, out1366⟩ : Copying), true))
def M.l_markIntS (x1464 : List Int) (x1470 : Int) : Option (Int × (List Int)) :=
  Option.bind (whileM (σ := Int × Int × List Int) (ρ := Int × List Int) (fun s1487 =>
    bif decide (s1487.2.1 < (s1487.2.2.length : Int)) then (Option.bind (gxIdx s1487.2.2 s1487.2.1) fun y1505 =>
    some (.inl (w64 (s1487.1 + 1), w64 (s1487.2.1 + 1), (s1487.2.2.set s1487.2.1.toNat s1487.1))))
    else some (.inr (s1487.1, s1487.2.2))) gxFuel (x1470, 0, x1464)) fun out1494 =>
  some (out1494.1, out1494.2)
def M.l_markBoolS (x1581 : List Bool) (x1587 : Int) : Option (Int × (List Bool)) :=
  Option.bind (whileM (σ := Int × Int × List Bool) (ρ := Int × List Bool) (fun s1604 =>
    bif decide (s1604.2.1 < (s1604.2.2.length : Int)) then (Option.bind (gxIdx s1604.2.2 s1604.2.1) fun y1622 =>
    some (.inl (w64 (s1604.1 + 1), w64 (s1604.2.1 + 1), (s1604.2.2.set s1604.2.1.toNat ((s1604.1.tmod 3) == 0)))))
    else some (.inr (s1604.1, s1604.2.2))) gxFuel (x1587, 0, x1581)) fun out1611 =>
  some (out1611.1, out1611.2)
def M.l_markCopying (x1541 : Copying) (x1557 : Int) : Option (Int × (List Int) × (List Int) × (List Bool)) :=
  Option.bind (M.l_markIntS x1541.Memory x1557) fun r1565 =>
  Option.bind (M.l_markIntS x1541.Copy r1565.1) fun r1573 =>
  Option.bind (M.l_markBoolS x1541.Dirty r1573.1) fun r1631 =>
  some (r1631.1, r1565.2, r1573.2, r1631.2)
def M.l_heldIntS (x1671 : List Int) (x1676 : Int) : Option (Int) :=
  Option.bind (whileM (σ := Int × Int) (ρ := (Int) ⊕ (Int)) (fun s1683 =>
    bif decide (s1683.2 < (x1671.length : Int)) then (Option.bind (gxIdx x1671 s1683.2) fun y1695 =>
    bif y1695 != s1683.1 then some (.inr (.inr (-1)))
    else some (.inl (w64 (s1683.1 + 1), w64 (s1683.2 + 1))))
    else some (.inr (.inl s1683.1))) gxFuel (x1676, 0)) fun out1690 => Sum.elim (fun (o1693 : Int) =>
  some o1693) (fun r => some r) out1690
def M.l_heldBoolS (x1711 : List Bool) (x1716 : Int) : Option (Int) :=
  Option.bind (whileM (σ := Int × Int) (ρ := (Int) ⊕ (Int)) (fun s1723 =>
    bif decide (s1723.2 < (x1711.length : Int)) then (Option.bind (gxIdx x1711 s1723.2) fun y1735 =>
    bif !(y1735 == ((s1723.1.tmod 3) == 0)) then some (.inr (.inr (-1)))
    else some (.inl (w64 (s1723.1 + 1), w64 (s1723.2 + 1))))
    else some (.inr (.inl s1723.1))) gxFuel (x1716, 0)) fun out1730 => Sum.elim (fun (o1733 : Int) =>
  some o1733) (fun r => some r) out1730
def M.l_heldCopying (x1653 : Copying) (x1666 : Int) : Option (Int) :=
  Option.bind (M.l_heldIntS x1653.Memory x1666) fun r1701 =>
  bif decide (r1701 < 0) then some (-1)
  else (Option.bind (M.l_heldIntS x1653.Copy r1701) fun r1706 =>
  bif decide (r1706 < 0) then some (-1)
  else (Option.bind (M.l_heldBoolS x1653.Dirty r1706) fun r1741 =>
  bif decide (r1741 < 0) then some (-1)
  else some r1741))
def M.l_FnExactStartCopy (x932 : List Int) : Option (Bool) :=
  bif decide ((x932.length : Int) > 1048576) then some true
  else (Option.bind (M.l_toIntS x932) fun r938 =>
  Option.bind (M.s_StartCopy r938) fun r1157 =>
  Option.bind (M.l_toIntS x932) fun r1185 =>
  Option.bind (M.i_StartCopy r1185) fun r1404 =>
  Option.bind (α := Bool) (Option.bind (M.l_eqCopying r1404.1 r1157.1) fun r1440 =>
  bif !r1440 then some true
  else some (!(r1404.2 == r1157.2))) fun o1437 =>
  bif o1437 then some false
  else (Option.bind (M.l_toIntS x932) fun r1450 =>
  Option.bind (M.l_eqIntS r1185 r1450) fun r1459 =>
  bif !r1459 then some false
  else (Option.bind (M.l_markIntS r1185 1) fun r1514 =>
  Option.bind (α := Bool) (bif decide (r1514.1 < 0) then some true
  else (Option.bind (M.l_eqCopying r1404.1 r1157.1) fun r1531 =>
  bif !r1531 then some true
  else some (!(r1404.2 == r1157.2)))) fun o1527 =>
  bif o1527 then some false
  else (Option.bind (M.l_markCopying r1404.1 1) fun r1639 =>
  Option.bind (M.l_heldCopying (⟨r1639.2.1, r1639.2.2.1, r1639.2.2.2⟩ : Copying) 1) fun r1746 =>
  bif decide (r1746 < 0) then some false
  else (bif r1746 != r1639.1 then some false
  else (Option.bind (M.l_toIntS x932) fun r1752 =>
  Option.bind (M.i_StartCopy r1752) fun r1761 =>
  Option.bind (α := Bool) (Option.bind (M.l_eqCopying r1761.1 r1157.1) fun r1797 =>
  bif !r1797 then some true
  else some (!(r1761.2 == r1157.2))) fun o1794 =>
  bif o1794 then some false
  else (Option.bind (M.l_heldCopying (⟨r1639.2.1, r1639.2.2.1, r1639.2.2.2⟩ : Copying) 1) fun r1807 =>
  bif decide (r1807 < 0) then some false
  else (bif r1807 != r1639.1 then some false
  else some true))))))))
def M.s_l19Dirty (x1888 : Copying) : Option ((List Int)) :=
  Option.bind (whileM (σ := List Int × Int) (ρ := List Int) (fun s2014 =>
    bif decide (s2014.2 < (x1888.Dirty.length : Int)) then (Option.bind (gxIdx x1888.Dirty s2014.2) fun y2036 =>
    Option.bind (α := List Int) (bif y2036 then (Option.bind (gxApp 8 s2014.1 [s2014.2]) fun ap2069 =>
    some ap2069)
    else some s2014.1) fun o2053 =>
    some (.inl (o2053, w64 (s2014.2 + 1))))
    else some (.inr s2014.1)) gxFuel (([] : List Int), 0)) fun out2021 =>
  some out2021
def M.s_DirtyWords (x1854 : Copying) : Option ((List Int) × Bool) :=
  Option.bind (M.s_l19Good x1854) fun r1876 =>
  bif !r1876 then some (([] : List Int), false)
  else (Option.bind (M.s_l19Dirty x1854) fun r2085 =>
  some (r2085, true))
def M.i_dirtyWords (x2159 : Copying) : Option ((List Int)) :=
  Option.bind (whileM (σ := List Int × Int) (ρ := List Int) (fun s2285 =>
    bif decide (s2285.2 < (x2159.Dirty.length : Int)) then (Option.bind (gxIdx x2159.Dirty s2285.2) fun y2307 =>
    Option.bind (α := List Int) (bif y2307 then (Option.bind (gxApp 8 s2285.1 [s2285.2]) fun ap2340 =>
    some ap2340)
    else some s2285.1) fun o2324 =>
    some (.inl (o2324, w64 (s2285.2 + 1))))
    else some (.inr s2285.1)) gxFuel (([] : List Int), 0)) fun out2292 =>
  some out2292
def M.i_DirtyWords (x2131 : Copying) : Option ((List Int) × Bool) :=
  Option.bind (M.i_IsCopying x2131) fun r2153 =>
  bif !r2153 then some (([] : List Int), false)
  else (Option.bind (M.i_dirtyWords x2131) fun r2356 =>
  some (r2356, true))
def M.l_FnExactDirtyWords (x1813 : Copying) : Option (Bool) :=
  Option.bind (M.l_szCopying x1813 1048576) fun r1830 =>
  bif decide (r1830 < 0) then some true
  else (Option.bind (M.l_toCopying x1813) fun r1835 =>
  Option.bind (M.s_DirtyWords r1835) fun r2094 =>
  Option.bind (M.l_toCopying x1813) fun r2103 =>
  Option.bind (M.i_DirtyWords r2103) fun r2365 =>
  Option.bind (α := Bool) (Option.bind (M.l_eqIntS r2365.1 r2094.1) fun r2382 =>
  bif !r2382 then some true
  else some (!(r2365.2 == r2094.2))) fun o2379 =>
  bif o2379 then some false
  else (Option.bind (M.l_toCopying x1813) fun r2394 =>
  Option.bind (M.l_eqCopying r2103 r2394) fun r2426 =>
  bif !r2426 then some false
  else (Option.bind (M.l_markCopying r2103 1) fun r2431 =>
  Option.bind (α := Bool) (bif decide (r2431.1 < 0) then some true
  else (Option.bind (M.l_eqIntS r2365.1 r2094.1) fun r2455 =>
  bif !r2455 then some true
  else some (!(r2365.2 == r2094.2)))) fun o2451 =>
  bif o2451 then some false
  else (Option.bind (M.l_markIntS r2365.1 1) fun r2465 =>
  Option.bind (M.l_heldIntS r2465.2 1) fun r2472 =>
  bif decide (r2472 < 0) then some false
  else (bif r2472 != r2465.1 then some false
  else (Option.bind (M.l_toCopying x1813) fun r2478 =>
  Option.bind (M.i_DirtyWords r2478) fun r2497 =>
  Option.bind (α := Bool) (Option.bind (M.l_eqIntS r2497.1 r2094.1) fun r2514 =>
  bif !r2514 then some true
  else some (!(r2497.2 == r2094.2))) fun o2511 =>
  bif o2511 then some false
  else (Option.bind (M.l_heldIntS r2465.2 1) fun r2524 =>
  bif decide (r2524 < 0) then some false
  else (bif r2524 != r2465.1 then some false
  else some true))))))))
def M.s_l19Own (x2642 : Copying) : Option (Copying) :=
  Option.bind (M.s_l1Own x2642.Memory) fun r2680 =>
  Option.bind (M.s_l1Own x2642.Copy) fun r2686 =>
  Option.bind (gxApp 1 ([] : List Bool) x2642.Dirty) fun ap2738 =>
  some (⟨r2680, r2686, ap2738⟩ : Copying)
def M.s_l19Round (x2605 : Copying) (x2618 : Int) : Option (Copying × Int) :=
  Option.bind (M.s_l19Own x2605) fun r2751 =>
  Option.bind (whileM (σ := Int × Int × List Int × List Bool) (ρ := Int × List Int × List Bool) (fun s3031 =>
    Option.bind (α := Bool) (bif decide (s3031.2.1 < (x2605.Dirty.length : Int)) then some (decide (s3031.1 < x2618))
    else some false) fun o3051 =>
    bif o3051 then (Option.bind (gxIdx x2605.Dirty s3031.2.1) fun y3060 =>
    Option.bind (α := Int × List Int × List Bool) (bif y3060 then (Option.bind (gxIdx x2605.Memory s3031.2.1) fun y3122 =>
    Option.bind (gxIdx s3031.2.2.1 s3031.2.1) fun y3158 =>
    Option.bind (gxIdx s3031.2.2.2 s3031.2.1) fun y3164 =>
    some (w64 (s3031.1 + 1), (s3031.2.2.1.set s3031.2.1.toNat y3122), (s3031.2.2.2.set s3031.2.1.toNat false)))
    else some (s3031.1, s3031.2.2.1, s3031.2.2.2)) fun o3112 =>
    some (.inl (o3112.1, w64 (s3031.2.1 + 1), o3112.2.1, o3112.2.2)))
    else some (.inr (s3031.1, s3031.2.2.1, s3031.2.2.2))) gxFuel (0, 0, r2751.Copy, r2751.Dirty)) fun out3038 =>
  some ((⟨r2751.Memory, out3038.2.1, out3038.2.2⟩ : Copying), out3038.1)
def M.s_FinishCopy (x2571 : Copying) : Option ((List Int) × Int × Bool) :=
  Option.bind (M.s_l19Good x2571) fun r2593 =>
  bif !r2593 then some (([] : List Int), 0, false)
  else (Option.bind (M.s_l19Round x2571 12) fun r3180 =>
  some (r3180.1.Copy, r3180.2, true))
def M.i_FinishCopy (x3245 : Copying) : Option ((List Int) × Int × Bool) :=
  Option.bind (M.i_IsCopying x3245) fun r3267 =>
  bif !r3267 then some (([] : List Int), 0, false)
  else (Option.bind (M.i_copyInts x3245.Memory) fun r3275 =>
  Option.bind (M.i_dirtyWords x3245) fun r3281 =>
  some (r3275, (r3281.length : Int), true))
def M.l_FnExactFinishCopy (x2530 : Copying) : Option (Bool) :=
  Option.bind (M.l_szCopying x2530 1048576) fun r2547 =>
  bif decide (r2547 < 0) then some true
  else (Option.bind (M.l_toCopying x2530) fun r2552 =>
  Option.bind (M.s_FinishCopy r2552) fun r3208 =>
  Option.bind (M.l_toCopying x2530) fun r3217 =>
  Option.bind (M.i_FinishCopy r3217) fun r3320 =>
  Option.bind (α := Bool) (Option.bind (M.l_eqIntS r3320.1 r3208.1) fun r3338 =>
  bif !r3338 then some true
  else (bif r3320.2.1 != r3208.2.1 then some true
  else some (!(r3320.2.2 == r3208.2.2)))) fun o3335 =>
  bif o3335 then some false
  else (Option.bind (M.l_toCopying x2530) fun r3351 =>
  Option.bind (M.l_eqCopying r3217 r3351) fun r3383 =>
  bif !r3383 then some false
  else (Option.bind (M.l_markCopying r3217 1) fun r3388 =>
  Option.bind (α := Bool) (bif decide (r3388.1 < 0) then some true
  else (Option.bind (M.l_eqIntS r3320.1 r3208.1) fun r3413 =>
  bif !r3413 then some true
  else (bif r3320.2.1 != r3208.2.1 then some true
  else some (!(r3320.2.2 == r3208.2.2))))) fun o3409 =>
  bif o3409 then some false
  else (Option.bind (M.l_markIntS r3320.1 1) fun r3424 =>
  Option.bind (M.l_heldIntS r3424.2 1) fun r3431 =>
  bif decide (r3431 < 0) then some false
  else (bif r3431 != r3424.1 then some false
  else (Option.bind (M.l_toCopying x2530) fun r3437 =>
  Option.bind (M.i_FinishCopy r3437) fun r3456 =>
  Option.bind (α := Bool) (Option.bind (M.l_eqIntS r3456.1 r3208.1) fun r3474 =>
  bif !r3474 then some true
  else (bif r3456.2.1 != r3208.2.1 then some true
  else some (!(r3456.2.2 == r3208.2.2)))) fun o3471 =>
  bif o3471 then some false
  else (Option.bind (M.l_heldIntS r3424.2 1) fun r3485 =>
  bif decide (r3485 < 0) then some false
  else (bif r3485 != r3424.1 then some false
  else some true))))))))
def M.l_toStore (x3536 : Store) : Option (Store) :=
  some x3536
def M.s_l19Store (x3602 : Copying) (x3615 : Store) : Option (Bool) :=
  Option.bind (α := Bool) (Option.bind (M.s_l1In x3615.Word 0 (w64 ((x3602.Memory.length : Int) - 1))) fun r3636 =>
  bif r3636 then (Option.bind (M.s_l2Word16 x3615.Value) fun r3641 =>
  some r3641)
  else some false) fun o3633 =>
  some o3633
def M.s_l19Write (x3675 : Copying) (x3688 : Store) : Option (Copying) :=
  Option.bind (M.s_l19Own x3675) fun r3716 =>
  Option.bind (gxIdx r3716.Memory x3688.Word) fun y3744 =>
  Option.bind (gxIdx r3716.Dirty x3688.Word) fun y3750 =>
  some (⟨(r3716.Memory.set x3688.Word.toNat x3688.Value), r3716.Copy, (r3716.Dirty.set x3688.Word.toNat true)⟩ : Copying)
def M.s_StoreWord (x3556 : Copying) (x3569 : Store) : Option (Copying × Bool) :=
  Option.bind (α := Bool) (Option.bind (M.s_l19Good x3556) fun r3656 =>
  bif !r3656 then some true
  else (Option.bind (M.s_l19Store x3556 x3569) fun r3661 =>
  some (!r3661))) fun o3653 =>
  bif o3653 then some ((⟨([] : List Int), ([] : List Int), ([] : List Bool)⟩ : Copying), false)
  else (Option.bind (M.s_l19Write x3556 x3569) fun r3758 =>
  some (r3758, true))
def M.i_isStore (x3925 : Copying) (x3938 : Store) : Option (Bool) :=
  Option.bind (α := Bool) (Option.bind (M.i_inside x3938.Word 0 (w64 ((x3925.Memory.length : Int) - 1))) fun r3959 =>
  bif r3959 then (Option.bind (M.i_isWord16 x3938.Value) fun r3964 =>
  some r3964)
  else some false) fun o3956 =>
  some o3956
def M.i_newCopying (x3998 : Copying) : Option (Copying) :=
  Option.bind (M.i_copyInts x3998.Memory) fun r4036 =>
  Option.bind (M.i_copyInts x3998.Copy) fun r4042 =>
  Option.bind (gxApp 1 ([] : List Bool) x3998.Dirty) fun ap4094 =>
  some (⟨r4036, r4042, ap4094⟩ : Copying)
def M.i_Copying_store (x4135 : Copying) (x4153 : Store) : Option ((List Int) × (List Int) × (List Bool)) :=
  Option.bind (gxIdx x4135.Memory x4153.Word) fun y4169 =>
  Option.bind (gxIdx x4135.Dirty x4153.Word) fun y4242 =>
  some ((x4135.Memory.set x4153.Word.toNat x4153.Value), x4135.Copy, (x4135.Dirty.set x4153.Word.toNat true))
def M.i_StoreWord (x3879 : Copying) (x3892 : Store) : Option (Copying × Bool) :=
  Option.bind (α := Bool) (Option.bind (M.i_IsCopying x3879) fun r3979 =>
  bif !r3979 then some true
  else (Option.bind (M.i_isStore x3879 x3892) fun r3984 =>
  some (!r3984))) fun o3976 =>
  bif o3976 then some ((⟨([] : List Int), ([] : List Int), ([] : List Bool)⟩ : Copying), false)
  else (Option.bind (M.i_newCopying x3879) fun r4107 =>
  Option.bind (M.i_Copying_store r4107 x3892) fun r4248 =>
  some ((⟨r4248.1, r4248.2.1, r4248.2.2⟩ : Copying), true))
def M.l_FnExactStoreWord (x3491 : Copying) (x3504 : Store) : Option (Bool) :=
  Option.bind (M.l_szCopying x3491 1048576) fun r3513 =>
  bif decide (r3513 < 0) then some true
  else (Option.bind (M.l_toCopying x3491) fun r3520 =>
  Option.bind (M.l_toStore x3504) fun r3555 =>
  Option.bind (M.s_StoreWord r3520 r3555) fun r3779 =>
  Option.bind (M.l_toCopying x3491) fun r3848 =>
  Option.bind (M.l_toStore x3504) fun r3878 =>
  Option.bind (M.i_StoreWord r3848 r3878) fun r4269 =>
  Option.bind (α := Bool) (Option.bind (M.l_eqCopying r4269.1 r3779.1) fun r4340 =>
  bif !r4340 then some true
  else some (!(r4269.2 == r3779.2))) fun o4337 =>
  bif o4337 then some false
  else (Option.bind (M.l_toCopying x3491) fun r4352 =>
  Option.bind (M.l_eqCopying r3848 r4352) fun r4384 =>
  bif !r4384 then some false
  else (Option.bind (M.l_markCopying r3848 1) fun r4389 =>
  Option.bind (α := Bool) (bif decide (r4389.1 < 0) then some true
  else (Option.bind (M.l_eqCopying r4269.1 r3779.1) fun r4413 =>
  bif !r4413 then some true
  else some (!(r4269.2 == r3779.2)))) fun o4409 =>
  bif o4409 then some false
  else (Option.bind (M.l_markCopying r4269.1 1) fun r4423 =>
  Option.bind (M.l_heldCopying (⟨r4423.2.1, r4423.2.2.1, r4423.2.2.2⟩ : Copying) 1) fun r4437 =>
  bif decide (r4437 < 0) then some false
  else (bif r4437 != r4423.1 then some false
  else (Option.bind (M.l_toCopying x3491) fun r4445 =>
  Option.bind (M.l_toStore x3504) fun r4461 =>
  Option.bind (M.i_StoreWord r4445 r4461) fun r4462 =>
  Option.bind (α := Bool) (Option.bind (M.l_eqCopying r4462.1 r3779.1) fun r4539 =>
  bif !r4539 then some true
  else some (!(r4462.2 == r3779.2))) fun o4536 =>
  bif o4536 then some false
  else (Option.bind (M.l_heldCopying (⟨r4423.2.1, r4423.2.2.1, r4423.2.2.2⟩ : Copying) 1) fun r4549 =>
  bif decide (r4549 < 0) then some false
  else (bif r4549 != r4423.1 then some false
  else some true))))))))
def M.s_CopyRound (x4597 : Copying) (x4610 : Int) : Option (Copying × Int × Bool) :=
  Option.bind (α := Bool) (Option.bind (M.s_l19Good x4597) fun r4646 =>
  bif !r4646 then some true
  else (Option.bind (M.s_l1In x4610 0 12) fun r4651 =>
  some (!r4651))) fun o4643 =>
  bif o4643 then some ((⟨([] : List Int), ([] : List Int), ([] : List Bool)⟩ : Copying), 0, false)
  else (Option.bind (M.s_l19Round x4597 x4610) fun r4665 =>
  some (r4665.1, r4665.2, true))
def M.i_Copying_round (x4847 : Copying) (x4865 : Int) : Option (Int × (List Int) × (List Int) × (List Bool)) :=
  Option.bind (whileM (σ := Int × Int × List Int × List Bool) (ρ := Int × List Int × List Bool) (fun s5303 =>
    bif decide (s5303.2.1 < (x4847.Dirty.length : Int)) then (Option.bind (gxIdx s5303.2.2.2 s5303.2.1) fun y5323 =>
    Option.bind (α := Bool) (bif y5323 then some (decide (s5303.1 < x4865))
    else some false) fun o5325 =>
    Option.bind (α := Int × List Int × List Bool) (bif o5325 then (Option.bind (gxIdx x4847.Memory s5303.2.1) fun y5438 =>
    Option.bind (gxIdx s5303.2.2.1 s5303.2.1) fun y5439 =>
    Option.bind (gxIdx s5303.2.2.2 s5303.2.1) fun y5524 =>
    some (w64 (s5303.1 + 1), (s5303.2.2.1.set s5303.2.1.toNat y5438), (s5303.2.2.2.set s5303.2.1.toNat false)))
    else some (s5303.1, s5303.2.2.1, s5303.2.2.2)) fun o5428 =>
    some (.inl (o5428.1, w64 (s5303.2.1 + 1), o5428.2.1, o5428.2.2)))
    else some (.inr (s5303.1, s5303.2.2.1, s5303.2.2.2))) gxFuel (0, 0, x4847.Copy, x4847.Dirty)) fun out5310 =>
  some (out5310.1, x4847.Memory, out5310.2.1, out5310.2.2)
def M.i_CopyRound (x4751 : Copying) (x4764 : Int) : Option (Copying × Int × Bool) :=
  Option.bind (α := Bool) (Option.bind (M.i_IsCopying x4751) fun r4800 =>
  bif !r4800 then some true
  else (Option.bind (M.i_inside x4764 0 12) fun r4805 =>
  some (!r4805))) fun o4797 =>
  bif o4797 then some ((⟨([] : List Int), ([] : List Int), ([] : List Bool)⟩ : Copying), 0, false)
  else (Option.bind (M.i_newCopying x4751) fun r4819 =>
  Option.bind (M.i_Copying_round r4819 x4764) fun r5538 =>
  some ((⟨r5538.2.1, r5538.2.2.1, r5538.2.2.2⟩ : Copying), r5538.1, true))
def M.l_FnExactCopyRound (x4555 : Copying) (x4568 : Int) : Option (Bool) :=
  Option.bind (M.l_szCopying x4555 1048576) fun r4573 =>
  bif decide (r4573 < 0) then some true
  else (Option.bind (M.l_toCopying x4555) fun r4578 =>
  Option.bind (M.s_CopyRound r4578 x4568) fun r4695 =>
  Option.bind (M.l_toCopying x4555) fun r4723 =>
  Option.bind (M.i_CopyRound r4723 x4568) fun r5559 =>
  Option.bind (α := Bool) (Option.bind (M.l_eqCopying r5559.1 r4695.1) fun r5596 =>
  bif !r5596 then some true
  else (bif r5559.2.1 != r4695.2.1 then some true
  else some (!(r5559.2.2 == r4695.2.2)))) fun o5593 =>
  bif o5593 then some false
  else (Option.bind (M.l_toCopying x4555) fun r5609 =>
  Option.bind (M.l_eqCopying r4723 r5609) fun r5641 =>
  bif !r5641 then some false
  else (Option.bind (M.l_markCopying r4723 1) fun r5646 =>
  Option.bind (α := Bool) (bif decide (r5646.1 < 0) then some true
  else (Option.bind (M.l_eqCopying r5559.1 r4695.1) fun r5671 =>
  bif !r5671 then some true
  else (bif r5559.2.1 != r4695.2.1 then some true
  else some (!(r5559.2.2 == r4695.2.2))))) fun o5667 =>
  bif o5667 then some false
  else (Option.bind (M.l_markCopying r5559.1 1) fun r5682 =>
  Option.bind (M.l_heldCopying (⟨r5682.2.1, r5682.2.2.1, r5682.2.2.2⟩ : Copying) 1) fun r5696 =>
  bif decide (r5696 < 0) then some false
  else (bif r5696 != r5682.1 then some false
  else (Option.bind (M.l_toCopying x4555) fun r5702 =>
  Option.bind (M.i_CopyRound r5702 x4568) fun r5721 =>
  Option.bind (α := Bool) (Option.bind (M.l_eqCopying r5721.1 r4695.1) fun r5758 =>
  bif !r5758 then some true
  else (bif r5721.2.1 != r4695.2.1 then some true
  else some (!(r5721.2.2 == r4695.2.2)))) fun o5755 =>
  bif o5755 then some false
  else (Option.bind (M.l_heldCopying (⟨r5682.2.1, r5682.2.2.1, r5682.2.2.2⟩ : Copying) 1) fun r5769 =>
  bif decide (r5769 < 0) then some false
  else (bif r5769 != r5682.1 then some false
  else some true))))))))
def M.l_szStoreS (x5820 : List Store) (x5825 : Int) : Option (Int) :=
  bif decide ((w64 (x5825 - (x5820.length : Int))) < 0) then some (-1)
  else some (w64 (x5825 - (x5820.length : Int)))
def M.l_szStoreSS (x5804 : List (List Store)) (x5809 : Int) : Option (Int) :=
  bif decide ((w64 (x5809 - (x5804.length : Int))) < 0) then some (-1)
  else (Option.bind (whileM (σ := Int × Int) (ρ := (Int) ⊕ (Int)) (fun s5846 =>
    bif decide (s5846.2 < (x5804.length : Int)) then (Option.bind (gxIdx x5804 s5846.2) fun y5858 =>
    Option.bind (M.l_szStoreS y5858 s5846.1) fun r5866 =>
    bif decide (r5866 < 0) then some (.inr (.inr (-1)))
    else some (.inl (r5866, w64 (s5846.2 + 1))))
    else some (.inr (.inl s5846.1))) gxFuel (w64 (x5809 - (x5804.length : Int)), 0)) fun out5853 => Sum.elim (fun (o5856 : Int) =>
  some o5856) (fun r => some r) out5853)
def M.l_toStoreS (x5930 : List Store) : Option ((List Store)) :=
  Option.bind (gxMake 16 (x5930.length : Int) ((⟨0, 0⟩ : Store) : Store)) fun mk5940 =>
  Option.bind (whileM (σ := Int × List Store) (ρ := List Store) (fun s5972 =>
    bif decide (s5972.1 < (x5930.length : Int)) then (Option.bind (gxIdx x5930 s5972.1) fun y5988 =>
    Option.bind (M.l_toStore y5988) fun r5989 =>
    Option.bind (gxIdx s5972.2 s5972.1) fun y5993 =>
    some (.inl (w64 (s5972.1 + 1), (s5972.2.set s5972.1.toNat r5989))))
    else some (.inr s5972.2)) gxFuel (0, mk5940)) fun out5979 =>
  some out5979
def M.l_toStoreSS (x5899 : List (List Store)) : Option ((List (List Store))) :=
  Option.bind (gxMake 24 (x5899.length : Int) ([] : List Store)) fun mk5911 =>
  Option.bind (whileM (σ := Int × List (List Store)) (ρ := List (List Store)) (fun s6078 =>
    bif decide (s6078.1 < (x5899.length : Int)) then (Option.bind (gxIdx x5899 s6078.1) fun y6096 =>
    Option.bind (M.l_toStoreS y6096) fun r6104 =>
    Option.bind (gxIdx s6078.2 s6078.1) fun y6113 =>
    some (.inl (w64 (s6078.1 + 1), (s6078.2.set s6078.1.toNat r6104))))
    else some (.inr s6078.2)) gxFuel (0, mk5911)) fun out6085 =>
  some out6085
def M.s_l19Stores (x6179 : Copying) (x6192 : List (List Store)) : Option (Bool) :=
  Option.bind (whileM (σ := Int) (ρ := (Unit) ⊕ (Bool)) (fun s6377 =>
    bif decide (s6377 < (x6192.length : Int)) then (Option.bind (whileM (σ := Int) (ρ := (Unit) ⊕ (Bool)) (fun s6431 =>
      Option.bind (gxIdx x6192 s6377) fun y6442 =>
      bif decide (s6431 < (y6442.length : Int)) then (Option.bind (gxIdx x6192 s6377) fun y6451 =>
      Option.bind (gxIdx y6451 s6431) fun y6455 =>
      Option.bind (M.s_l19Store x6179 y6455) fun r6456 =>
      bif !r6456 then some (.inr (.inr false))
      else some (.inl (w64 (s6431 + 1))))
      else some (.inr (.inl ()))) gxFuel 0) fun out6438 => Sum.elim (fun (o6441 : Unit) =>
    Option.bind (gxIdx x6192 s6377) fun y6467 =>
    bif decide ((y6467.length : Int) > 12) then some (.inr (.inr false))
    else some (.inl (w64 (s6377 + 1)))) (fun r => some (.inr (.inr r))) out6438)
    else some (.inr (.inl ()))) gxFuel 0) fun out6384 => Sum.elim (fun (o6387 : Unit) =>
  some (decide ((x6192.length : Int) ≤ 8))) (fun r => some r) out6384
def M.s_l19Run (x6526 : Copying) (x6539 : List (List Store)) (x6544 : Int) : Option (Copying × Int) :=
  Option.bind (M.s_l19Own x6526) fun r6568 =>
  Option.bind (whileM (σ := Int × Int × List Int × List Int × List Bool) (ρ := Int × List Int × List Int × List Bool) (fun s7225 =>
    bif decide (s7225.2.1 < (x6539.length : Int)) then (Option.bind (M.s_l19Round (⟨s7225.2.2.1, s7225.2.2.2.1, s7225.2.2.2.2⟩ : Copying) x6544) fun r7267 =>
    Option.bind (whileM (σ := Int × List Int × List Int × List Bool) (ρ := List Int × List Int × List Bool) (fun s7454 =>
      Option.bind (gxIdx x6539 s7225.2.1) fun y7495 =>
      bif decide (s7454.1 < (y7495.length : Int)) then (Option.bind (gxIdx x6539 s7225.2.1) fun y7506 =>
      Option.bind (gxIdx y7506 s7454.1) fun y7510 =>
      Option.bind (M.s_l19Write (⟨s7454.2.1, s7454.2.2.1, s7454.2.2.2⟩ : Copying) y7510) fun r7546 =>
      some (.inl (w64 (s7454.1 + 1), r7546.Memory, r7546.Copy, r7546.Dirty)))
      else some (.inr (s7454.2.1, s7454.2.2.1, s7454.2.2.2))) gxFuel (0, r7267.1.Memory, r7267.1.Copy, r7267.1.Dirty)) fun out7461 =>
    some (.inl (w64 (s7225.1 + r7267.2), w64 (s7225.2.1 + 1), out7461.1, out7461.2.1, out7461.2.2)))
    else some (.inr (s7225.1, s7225.2.2.1, s7225.2.2.2.1, s7225.2.2.2.2))) gxFuel (0, 0, r6568.Memory, r6568.Copy, r6568.Dirty)) fun out7232 =>
  some ((⟨out7232.2.1, out7232.2.2.1, out7232.2.2.2⟩ : Copying), out7232.1)
def M.s_RoundsUntil (x6150 : Copying) (x6163 : List (List Store)) (x6168 : Int) (x6169 : Int) : Option (Int × Bool) :=
  Option.bind (α := Bool) (Option.bind (M.s_l19Good x6150) fun r6493 =>
  bif !r6493 then some true
  else (Option.bind (M.s_l19Stores x6150 x6163) fun r6498 =>
  bif !r6498 then some true
  else (Option.bind (M.s_l1In x6168 0 12) fun r6503 =>
  bif !r6503 then some true
  else some (decide (x6169 < 0))))) fun o6490 =>
  bif o6490 then some (0, false)
  else (Option.bind (whileM (σ := Int) (ρ := (Unit) ⊕ (Int × Bool)) (fun s7752 =>
    bif decide (s7752 ≤ (x6163.length : Int)) then (Option.bind (gxSlice x6163 0 s7752) fun ys7766 =>
    Option.bind (M.s_l19Run x6150 ys7766 x6168) fun r7776 =>
    Option.bind (M.s_l19Dirty r7776.1) fun r7846 =>
    bif decide ((r7846.length : Int) ≤ x6169) then some (.inr (.inr (s7752, true)))
    else some (.inl (w64 (s7752 + 1))))
    else some (.inr (.inl ()))) gxFuel 0) fun out7759 => Sum.elim (fun (o7762 : Unit) =>
  some (0, false)) (fun r => some r) out7759)
def M.i_areRounds_1_1 (x8077 : Store) (x8078 : Copying) : Option (Bool) :=
  Option.bind (M.i_isStore x8078 x8077) fun r8098 =>
  some (!r8098)
def M.slices_IndexFunc_107__i_areRounds_1_1 (x8054 : List Store) (x8059 : Copying) : Option (Int) :=
  Option.bind (whileM (σ := Int) (ρ := (Unit) ⊕ (Int)) (fun s8114 =>
    bif decide (s8114 < (x8054.length : Int)) then (Option.bind (gxIdx x8054 s8114) fun y8126 =>
    Option.bind (M.i_areRounds_1_1 y8126 x8059) fun r8127 =>
    bif r8127 then some (.inr (.inr s8114))
    else some (.inl (w64 (s8114 + 1))))
    else some (.inr (.inl ()))) gxFuel 0) fun out8121 => Sum.elim (fun (o8124 : Unit) =>
  some (-1)) (fun r => some r) out8121
def M.slices_ContainsFunc_99__i_areRounds_1_1 (x8033 : List Store) (x8038 : Copying) : Option (Bool) :=
  Option.bind (M.slices_IndexFunc_107__i_areRounds_1_1 x8033 x8038) fun r8136 =>
  some (decide (r8136 ≥ 0))
def M.i_areRounds_1 (x8011 : List Store) (x8016 : Copying) : Option (Bool) :=
  Option.bind (α := Bool) (bif decide ((x8011.length : Int) > 12) then some true
  else (Option.bind (M.slices_ContainsFunc_99__i_areRounds_1_1 x8011 x8016) fun r8148 =>
  some r8148)) fun o8144 =>
  some o8144
def M.slices_IndexFunc_106__i_areRounds_1 (x7981 : List (List Store)) (x7986 : Copying) : Option (Int) :=
  Option.bind (whileM (σ := Int) (ρ := (Unit) ⊕ (Int)) (fun s8175 =>
    bif decide (s8175 < (x7981.length : Int)) then (Option.bind (gxIdx x7981 s8175) fun y8187 =>
    Option.bind (M.i_areRounds_1 y8187 x7986) fun r8195 =>
    bif r8195 then some (.inr (.inr s8175))
    else some (.inl (w64 (s8175 + 1))))
    else some (.inr (.inl ()))) gxFuel 0) fun out8182 => Sum.elim (fun (o8185 : Unit) =>
  some (-1)) (fun r => some r) out8182
def M.slices_ContainsFunc_97__i_areRounds_1 (x7960 : List (List Store)) (x7965 : Copying) : Option (Bool) :=
  Option.bind (M.slices_IndexFunc_106__i_areRounds_1 x7960 x7965) fun r8204 =>
  some (decide (r8204 ≥ 0))
def M.i_areRounds (x7926 : Copying) (x7939 : List (List Store)) (x7944 : Int) : Option (Bool) :=
  Option.bind (α := Bool) (Option.bind (M.i_IsCopying x7926) fun r8215 =>
  bif r8215 then (bif decide ((x7939.length : Int) ≤ 8) then (Option.bind (M.i_inside x7944 0 12) fun r8221 =>
  bif r8221 then (Option.bind (M.slices_ContainsFunc_97__i_areRounds_1 x7939 x7926) fun r8226 =>
  some (!r8226))
  else some false)
  else some false)
  else some false) fun o8212 =>
  some o8212
def M.i_Copying_roundWith (x8299 : Copying) (x8317 : List Store) (x8323 : Int) : Option (Int × (List Int) × (List Int) × (List Bool)) :=
  Option.bind (M.i_Copying_round x8299 x8323) fun r8333 =>
  Option.bind (whileM (σ := Int × List Int × List Int × List Bool) (ρ := List Int × List Int × List Bool) (fun s8421 =>
    bif decide (s8421.1 < (x8317.length : Int)) then (Option.bind (gxIdx x8317 s8421.1) fun y8463 =>
    Option.bind (M.i_Copying_store (⟨s8421.2.1, s8421.2.2.1, s8421.2.2.2⟩ : Copying) y8463) fun r8470 =>
    some (.inl (w64 (s8421.1 + 1), r8470.1, r8470.2.1, r8470.2.2)))
    else some (.inr (s8421.2.1, s8421.2.2.1, s8421.2.2.2))) gxFuel (0, r8333.2.1, r8333.2.2.1, r8333.2.2.2)) fun out8428 =>
  some (r8333.1, out8428.1, out8428.2.1, out8428.2.2)
def M.i_RoundsUntil (x7902 : Copying) (x7915 : List (List Store)) (x7920 : Int) (x7921 : Int) : Option (Int × Bool) :=
  Option.bind (α := Bool) (Option.bind (M.i_areRounds x7902 x7915 x7920) fun r8242 =>
  bif !r8242 then some true
  else some (decide (x7921 < 0))) fun o8239 =>
  bif o8239 then some (0, false)
  else (Option.bind (M.i_newCopying x7902) fun r8252 =>
  Option.bind (whileM (σ := Int × List Int × List Int × List Bool) (ρ := Int × Bool) (fun s8565 =>
    Option.bind (M.i_dirtyWords (⟨s8565.2.1, s8565.2.2.1, s8565.2.2.2⟩ : Copying)) fun r8590 =>
    bif decide ((r8590.length : Int) ≤ x7921) then some (.inr (s8565.1, true))
    else (bif s8565.1 == (x7915.length : Int) then some (.inr (0, false))
    else (Option.bind (gxIdx x7915 s8565.1) fun y8601 =>
    Option.bind (M.i_Copying_roundWith (⟨s8565.2.1, s8565.2.2.1, s8565.2.2.2⟩ : Copying) y8601 x7920) fun r8609 =>
    some (.inl (w64 (s8565.1 + 1), r8609.2.1, r8609.2.2.1, r8609.2.2.2))))) gxFuel (0, r8252.Memory, r8252.Copy, r8252.Dirty)) fun out8572 => some out8572)
def M.l_eqStore (x8737 : Store) (x8738 : Store) : Option (Bool) :=
  bif x8737.Word != x8738.Word then some false
  else (bif x8737.Value != x8738.Value then some false
  else some true)
def M.l_eqStoreS (x8723 : List Store) (x8728 : List Store) : Option (Bool) :=
  bif (x8723.length : Int) != (x8728.length : Int) then some false
  else (Option.bind (whileM (σ := Int) (ρ := (Unit) ⊕ (Bool)) (fun s8766 =>
    bif decide (s8766 < (x8723.length : Int)) then (Option.bind (gxIdx x8723 s8766) fun y8778 =>
    Option.bind (gxIdx x8728 s8766) fun y8779 =>
    Option.bind (M.l_eqStore y8778 y8779) fun r8780 =>
    bif !r8780 then some (.inr (.inr false))
    else some (.inl (w64 (s8766 + 1))))
    else some (.inr (.inl ()))) gxFuel 0) fun out8773 => Sum.elim (fun (o8776 : Unit) =>
  some true) (fun r => some r) out8773)
def M.l_eqStoreSS (x8695 : List (List Store)) (x8700 : List (List Store)) : Option (Bool) :=
  bif (x8695.length : Int) != (x8700.length : Int) then some false
  else (Option.bind (whileM (σ := Int) (ρ := (Unit) ⊕ (Bool)) (fun s8822 =>
    bif decide (s8822 < (x8695.length : Int)) then (Option.bind (gxIdx x8695 s8822) fun y8834 =>
    Option.bind (gxIdx x8700 s8822) fun y8842 =>
    Option.bind (M.l_eqStoreS y8834 y8842) fun r8850 =>
    bif !r8850 then some (.inr (.inr false))
    else some (.inl (w64 (s8822 + 1))))
    else some (.inr (.inl ()))) gxFuel 0) fun out8829 => Sum.elim (fun (o8832 : Unit) =>
  some true) (fun r => some r) out8829)
def M.l_FnExactRoundsUntil (x5775 : Copying) (x5788 : List (List Store)) (x5793 : Int) (x5794 : Int) : Option (Bool) :=
  Option.bind (M.l_szCopying x5775 1048576) fun r5799 =>
  bif decide (r5799 < 0) then some true
  else (Option.bind (M.l_szStoreSS x5788 r5799) fun r5875 =>
  bif decide (r5875 < 0) then some true
  else (Option.bind (M.l_toCopying x5775) fun r5880 =>
  Option.bind (M.l_toStoreSS x5788) fun r6140 =>
  Option.bind (M.s_RoundsUntil r5880 r6140 x5793 x5794) fun r7860 =>
  Option.bind (M.l_toCopying x5775) fun r7864 =>
  Option.bind (M.l_toStoreSS x5788) fun r7892 =>
  Option.bind (M.i_RoundsUntil r7864 r7892 x5793 x5794) fun r8632 =>
  Option.bind (α := Bool) (bif r8632.1 != r7860.1 then some true
  else some (!(r8632.2 == r7860.2))) fun o8637 =>
  bif o8637 then some false
  else (Option.bind (M.l_toCopying x5775) fun r8648 =>
  Option.bind (M.l_eqCopying r7864 r8648) fun r8680 =>
  bif !r8680 then some false
  else (Option.bind (M.l_toStoreSS x5788) fun r8685 =>
  Option.bind (M.l_eqStoreSS r7892 r8685) fun r8861 =>
  bif !r8861 then some false
  else some true))))
def M.s_RunRounds (x8928 : Copying) (x8941 : List (List Store)) (x8946 : Int) : Option (Copying × Int × Bool) :=
  Option.bind (α := Bool) (Option.bind (M.s_l19Good x8928) fun r8987 =>
  bif !r8987 then some true
  else (Option.bind (M.s_l19Stores x8928 x8941) fun r8992 =>
  bif !r8992 then some true
  else (Option.bind (M.s_l1In x8946 0 12) fun r8997 =>
  some (!r8997)))) fun o8984 =>
  bif o8984 then some ((⟨([] : List Int), ([] : List Int), ([] : List Bool)⟩ : Copying), 0, false)
  else (Option.bind (M.s_l19Run x8928 x8941 x8946) fun r9011 =>
  some (r9011.1, r9011.2, true))
def M.i_RunRounds (x9107 : Copying) (x9120 : List (List Store)) (x9125 : Int) : Option (Copying × Int × Bool) :=
  Option.bind (M.i_areRounds x9107 x9120 x9125) fun r9149 =>
  bif !r9149 then some ((⟨([] : List Int), ([] : List Int), ([] : List Bool)⟩ : Copying), 0, false)
  else (Option.bind (M.i_newCopying x9107) fun r9159 =>
  Option.bind (whileM (σ := Int × Int × List Int × List Int × List Bool) (ρ := Int × List Int × List Int × List Bool) (fun s9258 =>
    bif decide (s9258.2.1 < (x9120.length : Int)) then (Option.bind (gxIdx x9120 s9258.2.1) fun y9300 =>
    Option.bind (M.i_Copying_roundWith (⟨s9258.2.2.1, s9258.2.2.2.1, s9258.2.2.2.2⟩ : Copying) y9300 x9125) fun r9308 =>
    some (.inl (w64 (s9258.1 + r9308.1), w64 (s9258.2.1 + 1), r9308.2.1, r9308.2.2.1, r9308.2.2.2)))
    else some (.inr (s9258.1, s9258.2.2.1, s9258.2.2.2.1, s9258.2.2.2.2))) gxFuel (0, 0, r9159.Memory, r9159.Copy, r9159.Dirty)) fun out9265 =>
  some ((⟨out9265.2.1, out9265.2.2.1, out9265.2.2.2⟩ : Copying), out9265.1, true))
def M.l_markStoreS (x9468 : List Store) (x9474 : Int) : Option (Int × (List Store)) :=
  Option.bind (whileM (σ := Int × Int × List Store) (ρ := Int × List Store) (fun s9505 =>
    bif decide (s9505.2.1 < (s9505.2.2.length : Int)) then (Option.bind (gxIdx s9505.2.2 s9505.2.1) fun y9523 =>
    Option.bind (gxIdx (s9505.2.2.set s9505.2.1.toNat (⟨s9505.1, y9523.Value⟩ : Store)) s9505.2.1) fun y9529 =>
    some (.inl (w64 ((w64 (s9505.1 + 1)) + 1), w64 (s9505.2.1 + 1), ((s9505.2.2.set s9505.2.1.toNat (⟨s9505.1, y9523.Value⟩ : Store)).set s9505.2.1.toNat (⟨(⟨s9505.1, y9523.Value⟩ : Store).Word, w64 (s9505.1 + 1)⟩ : Store)))))
    else some (.inr (s9505.1, s9505.2.2))) gxFuel (x9474, 0, x9468)) fun out9512 =>
  some (out9512.1, out9512.2)
def M.l_markStoreSS (x9449 : List (List Store)) (x9456 : Int) : Option (Int × (List (List Store))) :=
  Option.bind (whileM (σ := Int × Int × List (List Store)) (ρ := Int × List (List Store)) (fun s9604 =>
    bif decide (s9604.2.1 < (s9604.2.2.length : Int)) then (Option.bind (gxIdx s9604.2.2 s9604.2.1) fun y9624 =>
    Option.bind (M.l_markStoreS y9624 s9604.1) fun r9632 =>
    some (.inl (r9632.1, w64 (s9604.2.1 + 1), (s9604.2.2.set s9604.2.1.toNat r9632.2))))
    else some (.inr (s9604.1, s9604.2.2))) gxFuel (x9456, 0, x9449)) fun out9611 =>
  some (out9611.1, out9611.2)
def M.l_FnExactRunRounds (x8866 : Copying) (x8879 : List (List Store)) (x8884 : Int) : Option (Bool) :=
  Option.bind (M.l_szCopying x8866 1048576) fun r8889 =>
  bif decide (r8889 < 0) then some true
  else (Option.bind (M.l_szStoreSS x8879 r8889) fun r8894 =>
  bif decide (r8894 < 0) then some true
  else (Option.bind (M.l_toCopying x8866) fun r8899 =>
  Option.bind (M.l_toStoreSS x8879) fun r8918 =>
  Option.bind (M.s_RunRounds r8899 r8918 x8884) fun r9041 =>
  Option.bind (M.l_toCopying x8866) fun r9069 =>
  Option.bind (M.l_toStoreSS x8879) fun r9097 =>
  Option.bind (M.i_RunRounds r9069 r9097 x8884) fun r9333 =>
  Option.bind (α := Bool) (Option.bind (M.l_eqCopying r9333.1 r9041.1) fun r9370 =>
  bif !r9370 then some true
  else (bif r9333.2.1 != r9041.2.1 then some true
  else some (!(r9333.2.2 == r9041.2.2)))) fun o9367 =>
  bif o9367 then some false
  else (Option.bind (M.l_toCopying x8866) fun r9383 =>
  Option.bind (M.l_eqCopying r9069 r9383) fun r9415 =>
  bif !r9415 then some false
  else (Option.bind (M.l_toStoreSS x8879) fun r9420 =>
  Option.bind (M.l_eqStoreSS r9097 r9420) fun r9430 =>
  bif !r9430 then some false
  else (Option.bind (M.l_markCopying r9069 1) fun r9435 =>
  Option.bind (M.l_markStoreSS r9097 r9435.1) fun r9662 =>
  Option.bind (α := Bool) (bif decide (r9662.1 < 0) then some true
  else (Option.bind (M.l_eqCopying r9333.1 r9041.1) fun r9681 =>
  bif !r9681 then some true
  else (bif r9333.2.1 != r9041.2.1 then some true
  else some (!(r9333.2.2 == r9041.2.2))))) fun o9677 =>
  bif o9677 then some false
  else (Option.bind (M.l_markCopying r9333.1 1) fun r9692 =>
  Option.bind (M.l_heldCopying (⟨r9692.2.1, r9692.2.2.1, r9692.2.2.2⟩ : Copying) 1) fun r9706 =>
  bif decide (r9706 < 0) then some false
  else (bif r9706 != r9692.1 then some false
  else (Option.bind (M.l_toCopying x8866) fun r9712 =>
  Option.bind (M.l_toStoreSS x8879) fun r9731 =>
  Option.bind (M.i_RunRounds r9712 r9731 x8884) fun r9741 =>
  Option.bind (α := Bool) (Option.bind (M.l_eqCopying r9741.1 r9041.1) fun r9778 =>
  bif !r9778 then some true
  else (bif r9741.2.1 != r9041.2.1 then some true
  else some (!(r9741.2.2 == r9041.2.2)))) fun o9775 =>
  bif o9775 then some false
  else (Option.bind (M.l_heldCopying (⟨r9692.2.1, r9692.2.2.1, r9692.2.2.2⟩ : Copying) 1) fun r9789 =>
  bif decide (r9789 < 0) then some false
  else (bif r9789 != r9692.1 then some false
  else some true))))))))))
def M.l_vBig (x9800 : List Int) : Option (Bool) :=
  some (decide ((x9800.length : Int) > 65536))
def M.s_l1Cur_next (x9902 : l1Cur) : Option (Int × Int × Int) :=
  Option.bind (α := Int) (bif decide (x9902.at_ < (x9902.code.length : Int)) then (Option.bind (gxIdx x9902.code x9902.at_) fun y9920 =>
  some (w64 y9920))
  else some 0) fun o9916 =>
  bif decide ((w64 (x9902.at_ + 1)) ≤ (x9902.code.length : Int)) then some (o9916, w64 (x9902.at_ + 1), IntKind.u64.wrap ((IntKind.u64.wrap ((IntKind.u64.wrap (x9902.seed * 6364136223846793005)) + (IntKind.u64.wrap o9916))) + 843843))
  else some (w64 (gxAnd .u64 ((IntKind.u64.wrap ((IntKind.u64.wrap ((IntKind.u64.wrap (x9902.seed * 6364136223846793005)) + (IntKind.u64.wrap o9916))) + 843843)).fdiv (2 ^ 40)) 255), w64 (x9902.at_ + 1), IntKind.u64.wrap ((IntKind.u64.wrap ((IntKind.u64.wrap (x9902.seed * 6364136223846793005)) + (IntKind.u64.wrap o9916))) + 843843))
def M.s_l1Cur_pick (x9892 : l1Cur) (x9900 : Int) : Option (Int × Int × Int) :=
  bif decide (x9900 ≤ 1) then some (0, x9892.at_, x9892.seed)
  else (Option.bind (M.s_l1Cur_next x9892) fun r9934 =>
  Option.bind (α := Int × Int × Int) (bif decide (x9900 > 200) then (Option.bind (M.s_l1Cur_next (⟨x9892.code, r9934.2.1, r9934.2.2⟩ : l1Cur)) fun r9947 =>
  some (w64 ((w64 (r9934.1 * 256)) + r9947.1), r9947.2.1, r9947.2.2))
  else some (r9934.1, r9934.2.1, r9934.2.2)) fun o9943 =>
  Option.bind (gxRem o9943.1 x9900) fun q9955 =>
  some (q9955, o9943.2.1, o9943.2.2))
def M.s_l1Cur_among (x9968 : l1Cur) (x9976 : List Int) : Option (Int × Int × Int) :=
  Option.bind (M.s_l1Cur_pick x9968 (x9976.length : Int)) fun r9982 =>
  Option.bind (gxIdx x9976 r9982.1) fun y9986 =>
  some (y9986, r9982.2.1, r9982.2.2)
def M.s_l1Cur_memory (x9872 : l1Cur) : Option ((List Int) × Int × Int) :=
  Option.bind (M.s_l1Cur_pick x9872 8) fun r9956 =>
  Option.bind (whileM (σ := List Int × Int × Int × Int) (ρ := List Int × Int × Int) (fun s10038 =>
    bif decide (s10038.2.1 > 0) then (Option.bind (M.s_l1Cur_among (⟨x9872.code, s10038.2.2.1, s10038.2.2.2⟩ : l1Cur) [0, 0, 1, 2, 255, 4096, 65535]) fun r10067 =>
    Option.bind (gxApp 8 s10038.1 [r10067.1]) fun ap10078 =>
    some (.inl (ap10078, w64 (s10038.2.1 - 1), r10067.2.1, r10067.2.2)))
    else some (.inr (s10038.1, s10038.2.2.1, s10038.2.2.2))) gxFuel (([] : List Int), w64 (1 + r9956.1), r9956.2.1, r9956.2.2)) fun out10045 =>
  Option.bind (M.s_l1Cur_pick (⟨x9872.code, out10045.2.1, out10045.2.2⟩ : l1Cur) 32) fun r10090 =>
  Option.bind (α := List Int × Int × Int × List Int) (bif r10090.1 == 0 then (Option.bind (M.s_l1Cur_among (⟨x9872.code, r10090.2.1, r10090.2.2⟩ : l1Cur) [(-1), 65536]) fun r10545 =>
  Option.bind (gxIdx out10045.1 0) fun y10549 =>
  some ((out10045.1.set (0 : Int).toNat r10545.1), r10545.2.1, r10545.2.2, (out10045.1.set (0 : Int).toNat r10545.1)))
  else (Option.bind (α := List Int × Int × Int) (bif r10090.1 == 1 then some (([] : List Int), r10090.2.1, r10090.2.2)
  else (Option.bind (α := List Int × Int × Int) (bif r10090.1 == 2 then (Option.bind (whileM (σ := List Int × Int × Int) (ρ := List Int × Int × Int) (fun s10917 =>
    Option.bind (M.s_l1Cur_pick (⟨x9872.code, s10917.2.1, s10917.2.2⟩ : l1Cur) 2) fun r10938 =>
    bif decide ((s10917.1.length : Int) < (w64 (12 + r10938.1))) then (Option.bind (gxApp 8 s10917.1 [7]) fun ap10950 =>
    some (.inl (ap10950, r10938.2.1, r10938.2.2)))
    else some (.inr (s10917.1, r10938.2.1, r10938.2.2))) gxFuel (out10045.1, r10090.2.1, r10090.2.2)) fun out10924 =>
  some (out10924.1, out10924.2.1, out10924.2.2))
  else some (out10045.1, r10090.2.1, r10090.2.2)) fun o10863 =>
  some (o10863.1, o10863.2.1, o10863.2.2))) fun o10756 =>
  some (o10756.1, o10756.2.1, o10756.2.2, out10045.1))) fun o10527 =>
  some (o10527.1, o10527.2.1, o10527.2.2.1)
def M.s_l1Cur_one (x11025 : l1Cur) (x11033 : Int) : Option (Bool × Int × Int) :=
  Option.bind (M.s_l1Cur_pick x11025 x11033) fun r11034 =>
  some (r11034.1 == 0, r11034.2.1, r11034.2.2)
def M.s_l1Most (x11142 : Int) (x11143 : Int) : Option (Int) :=
  bif decide (x11142 > x11143) then some x11142
  else some x11143
def M.s_l1Cur_storeIn (x11100 : l1Cur) (x11108 : Int) : Option (Store × Int × Int) :=
  Option.bind (M.s_l1Cur_one x11100 32) fun r11113 =>
  bif r11113.1 then (Option.bind (M.s_l1Cur_among (⟨x11100.code, r11113.2.1, r11113.2.2⟩ : l1Cur) [(-1), x11108, 0]) fun r11125 =>
  Option.bind (M.s_l1Cur_among (⟨x11100.code, r11125.2.1, r11125.2.2⟩ : l1Cur) [(-1), 65536]) fun r11136 =>
  some ((⟨r11125.1, r11136.1⟩ : Store), r11136.2.1, r11136.2.2))
  else (Option.bind (M.s_l1Most 1 x11108) fun r11145 =>
  Option.bind (M.s_l1Cur_pick (⟨x11100.code, r11113.2.1, r11113.2.2⟩ : l1Cur) r11145) fun r11149 =>
  Option.bind (M.s_l1Cur_among (⟨x11100.code, r11149.2.1, r11149.2.2⟩ : l1Cur) [0, 1, 5, 300, 65535]) fun r11160 =>
  some ((⟨r11149.1, r11160.1⟩ : Store), r11160.2.1, r11160.2.2))
def M.s_l1Cur_copying (x9845 : l1Cur) : Option (Copying × Int × Int) :=
  Option.bind (M.s_l1Cur_memory x9845) fun r10974 =>
  Option.bind (M.s_StartCopy r10974.1) fun r10983 =>
  Option.bind (M.s_l1Cur_pick (⟨x9845.code, r10974.2.1, r10974.2.2⟩ : l1Cur) 6) fun r11011 =>
  Option.bind (whileM (σ := Int × Int × Int × List Int × List Int × List Bool) (ρ := Int × Int × List Int × List Int × List Bool) (fun s11733 =>
    Option.bind (α := Bool) (bif decide (s11733.1 > 0) then some (decide ((s11733.2.2.2.1.length : Int) > 0))
    else some false) fun o11775 =>
    bif o11775 then (Option.bind (M.s_l1Cur_one (⟨x9845.code, s11733.2.1, s11733.2.2.1⟩ : l1Cur) 2) fun r11784 =>
    Option.bind (α := Int × Int × List Int × List Int × List Bool) (bif r11784.1 then (Option.bind (M.s_l1Cur_pick (⟨x9845.code, r11784.2.1, r11784.2.2⟩ : l1Cur) 6) fun r11947 =>
    Option.bind (M.s_l19Round (⟨s11733.2.2.2.1, s11733.2.2.2.2.1, s11733.2.2.2.2.2⟩ : Copying) r11947.1) fun r11948 =>
    some (r11947.2.1, r11947.2.2, r11948.1.Memory, r11948.1.Copy, r11948.1.Dirty))
    else (Option.bind (M.s_l1Cur_storeIn (⟨x9845.code, r11784.2.1, r11784.2.2⟩ : l1Cur) (s11733.2.2.2.1.length : Int)) fun r12002 =>
    Option.bind (M.s_l19Store (⟨s11733.2.2.2.1, s11733.2.2.2.2.1, s11733.2.2.2.2.2⟩ : Copying) r12002.1) fun r12012 =>
    Option.bind (α := List Int × List Int × List Bool) (bif r12012 then (Option.bind (M.s_l19Write (⟨s11733.2.2.2.1, s11733.2.2.2.2.1, s11733.2.2.2.2.2⟩ : Copying) r12002.1) fun r12057 =>
    some (r12057.Memory, r12057.Copy, r12057.Dirty))
    else some (s11733.2.2.2.1, s11733.2.2.2.2.1, s11733.2.2.2.2.2)) fun o12038 =>
    some (r12002.2.1, r12002.2.2, o12038.1, o12038.2.1, o12038.2.2))) fun o11926 =>
    some (.inl (w64 (s11733.1 - 1), o11926.1, o11926.2.1, o11926.2.2.1, o11926.2.2.2.1, o11926.2.2.2.2)))
    else some (.inr (s11733.2.1, s11733.2.2.1, s11733.2.2.2.1, s11733.2.2.2.2.1, s11733.2.2.2.2.2))) gxFuel (r11011.1, r11011.2.1, r11011.2.2, r10983.1.Memory, r10983.1.Copy, r10983.1.Dirty)) fun out11740 =>
  Option.bind (M.s_l1Cur_pick (⟨x9845.code, out11740.1, out11740.2.1⟩ : l1Cur) 24) fun r12090 =>
  Option.bind (α := Int × Int × List Bool × List Int) (bif r12090.1 == 0 then (Option.bind (gxApp 1 out11740.2.2.2.2 [true]) fun ap12445 =>
  some (r12090.2.1, r12090.2.2, ap12445, out11740.2.2.2.1))
  else (Option.bind (α := Int × Int × List Int × List Bool) (bif r12090.1 == 1 then (Option.bind (α := Int × Int × List Int × List Bool) (bif decide ((out11740.2.2.2.1.length : Int) > 0) then (Option.bind (M.s_l1Cur_among (⟨x9845.code, r12090.2.1, r12090.2.2⟩ : l1Cur) [(-1), 9]) fun r12700 =>
  Option.bind (gxIdx out11740.2.2.2.1 0) fun y12726 =>
  Option.bind (M.s_l1Cur_one (⟨x9845.code, r12700.2.1, r12700.2.2⟩ : l1Cur) 2) fun r12734 =>
  Option.bind (gxIdx out11740.2.2.2.2 0) fun y12756 =>
  some (r12734.2.1, r12734.2.2, (out11740.2.2.2.1.set (0 : Int).toNat r12700.1), (out11740.2.2.2.2.set (0 : Int).toNat r12734.1)))
  else some (r12090.2.1, r12090.2.2, out11740.2.2.2.1, out11740.2.2.2.2)) fun o12685 =>
  some (o12685.1, o12685.2.1, o12685.2.2.1, o12685.2.2.2))
  else some (r12090.2.1, r12090.2.2, out11740.2.2.2.1, out11740.2.2.2.2)) fun o12607 =>
  some (o12607.1, o12607.2.1, o12607.2.2.2, o12607.2.2.1))) fun o12427 =>
  some ((⟨out11740.2.2.1, o12427.2.2.2, o12427.2.2.1⟩ : Copying), o12427.1, o12427.2.1)
def M.s_l1Cur_storeLists (x12806 : l1Cur) (x12814 : Int) : Option ((List (List Store)) × Int × Int) :=
  Option.bind (M.s_l1Cur_pick x12806 6) fun r12830 =>
  Option.bind (whileM (σ := List (List Store) × Int × Int × Int) (ρ := List (List Store) × Int × Int) (fun s13094 =>
    bif decide (s13094.2.1 > 0) then (Option.bind (M.s_l1Cur_pick (⟨x12806.code, s13094.2.2.1, s13094.2.2.2⟩ : l1Cur) 4) fun r13125 =>
    Option.bind (whileM (σ := List Store × Int × Int × Int) (ρ := List Store × Int × Int) (fun s13174 =>
      bif decide (s13174.2.1 > 0) then (Option.bind (M.s_l1Cur_storeIn (⟨x12806.code, s13174.2.2.1, s13174.2.2.2⟩ : l1Cur) x12814) fun r13196 =>
      Option.bind (gxApp 16 s13174.1 [r13196.1]) fun ap13207 =>
      some (.inl (ap13207, w64 (s13174.2.1 - 1), r13196.2.1, r13196.2.2)))
      else some (.inr (s13174.1, s13174.2.2.1, s13174.2.2.2))) gxFuel (([] : List Store), r13125.1, r13125.2.1, r13125.2.2)) fun out13181 =>
    Option.bind (gxApp 24 s13094.1 [out13181.1]) fun ap13229 =>
    some (.inl (ap13229, w64 (s13094.2.1 - 1), out13181.2.1, out13181.2.2)))
    else some (.inr (s13094.1, s13094.2.2.1, s13094.2.2.2))) gxFuel (([] : List (List Store)), r12830.1, r12830.2.1, r12830.2.2)) fun out13101 =>
  Option.bind (M.s_l1Cur_one (⟨x12806.code, out13101.2.1, out13101.2.2⟩ : l1Cur) 32) fun r13248 =>
  Option.bind (α := List (List Store) × Int × Int) (bif r13248.1 then (Option.bind (whileM (σ := List (List Store) × Int × Int) (ρ := List (List Store) × Int × Int) (fun s13487 =>
    Option.bind (M.s_l1Cur_pick (⟨x12806.code, s13487.2.1, s13487.2.2⟩ : l1Cur) 2) fun r13510 =>
    bif decide ((s13487.1.length : Int) < (w64 (8 + r13510.1))) then (Option.bind (gxApp 24 s13487.1 [([] : List Store)]) fun ap13532 =>
    some (.inl (ap13532, r13510.2.1, r13510.2.2)))
    else some (.inr (s13487.1, r13510.2.1, r13510.2.2))) gxFuel (out13101.1, r13248.2.1, r13248.2.2)) fun out13494 =>
  some (out13494.1, out13494.2.1, out13494.2.2))
  else some (out13101.1, r13248.2.1, r13248.2.2)) fun o13397 =>
  some (o13397.1, o13397.2.1, o13397.2.2)
def M.s_DrawRunRounds (x9810 : List Int) : Option (Copying × (List (List Store)) × Int) :=
  Option.bind (M.s_l1Cur_copying (⟨x9810, 0, 0⟩ : l1Cur)) fun r12776 =>
  Option.bind (M.s_l1Cur_storeLists (⟨x9810, r12776.2.1, r12776.2.2⟩ : l1Cur) (r12776.1.Memory.length : Int)) fun r13555 =>
  Option.bind (M.s_l1Cur_among (⟨x9810, r13555.2.1, r13555.2.2⟩ : l1Cur) [0, 1, 2, 3, 12, 13, 4]) fun r13573 =>
  some (r12776.1, r13555.1, r13573.1)
def M.l_vInts (x13751 : List Int) (x13756 : List Int) : Option (Bool) :=
  bif (x13751.length : Int) != (x13756.length : Int) then some false
  else (Option.bind (whileM (σ := Int) (ρ := (Unit) ⊕ (Bool)) (fun s13774 =>
    bif decide (s13774 < (x13751.length : Int)) then (Option.bind (gxIdx x13751 s13774) fun y13786 =>
    Option.bind (gxIdx x13756 s13774) fun y13787 =>
    bif y13786 != y13787 then some (.inr (.inr false))
    else some (.inl (w64 (s13774 + 1))))
    else some (.inr (.inl ()))) gxFuel 0) fun out13781 => Sum.elim (fun (o13784 : Unit) =>
  some true) (fun r => some r) out13781)
def M.l_vBools (x13805 : List Bool) (x13810 : List Bool) : Option (Bool) :=
  bif (x13805.length : Int) != (x13810.length : Int) then some false
  else (Option.bind (whileM (σ := Int) (ρ := (Unit) ⊕ (Bool)) (fun s13828 =>
    bif decide (s13828 < (x13805.length : Int)) then (Option.bind (gxIdx x13805 s13828) fun y13840 =>
    Option.bind (gxIdx x13810 s13828) fun y13841 =>
    bif !(y13840 == y13841) then some (.inr (.inr false))
    else some (.inl (w64 (s13828 + 1))))
    else some (.inr (.inl ()))) gxFuel 0) fun out13835 => Sum.elim (fun (o13838 : Unit) =>
  some true) (fun r => some r) out13835)
def M.l_vCopying (x13717 : Copying) (x13730 : Copying) : Option (Bool) :=
  Option.bind (α := Bool) (Option.bind (M.l_vInts x13717.Memory x13730.Memory) fun r13856 =>
  bif r13856 then (Option.bind (M.l_vInts x13717.Copy x13730.Copy) fun r13861 =>
  bif r13861 then (Option.bind (M.l_vBools x13717.Dirty x13730.Dirty) fun r13866 =>
  some r13866)
  else some false)
  else some false) fun o13853 =>
  some o13853
def M.s_DrawRoundsUntil (x15996 : List Int) : Option (Copying × (List (List Store)) × Int × Int) :=
  Option.bind (M.s_l1Cur_copying (⟨x15996, 0, 0⟩ : l1Cur)) fun r16031 =>
  Option.bind (M.s_l1Cur_storeLists (⟨x15996, r16031.2.1, r16031.2.2⟩ : l1Cur) (r16031.1.Memory.length : Int)) fun r16061 =>
  Option.bind (M.s_l1Cur_among (⟨x15996, r16061.2.1, r16061.2.2⟩ : l1Cur) [1, 2, 3, 12, 4, 0]) fun r16079 =>
  Option.bind (M.s_l1Cur_pick (⟨x15996, r16079.2.1, r16079.2.2⟩ : l1Cur) 5) fun r16086 =>
  Option.bind (M.s_l1Cur_pick (⟨x15996, r16086.2.1, r16086.2.2⟩ : l1Cur) 9) fun r16093 =>
  some (r16031.1, r16061.1, r16079.1, w64 (r16086.1 - (w64 (r16093.1.tdiv 8))))
def M.s_DrawIsCopying (x16955 : List Int) : Option (Copying) :=
  Option.bind (M.s_l1Cur_copying (⟨x16955, 0, 0⟩ : l1Cur)) fun r16984 =>
  some r16984.1
def M.s_DrawFinishCopy (x16931 : List Int) : Option (Copying) :=
  Option.bind (M.s_DrawIsCopying x16931) fun r17005 =>
  some r17005
def M.l_FnCopies (x9795 : List Int) : Option (Bool) :=
  Option.bind (M.l_vBig x9795) fun r9805 =>
  bif r9805 then some true
  else (Option.bind (M.s_DrawRunRounds x9795) fun r13621 =>
  Option.bind (M.i_RunRounds r13621.1 r13621.2.1 r13621.2.2) fun r13655 =>
  Option.bind (M.s_RunRounds r13621.1 r13621.2.1 r13621.2.2) fun r13683 =>
  Option.bind (α := Bool) (bif !(r13655.2.2 == r13683.2.2) then some true
  else (bif r13655.2.1 != r13683.2.1 then some true
  else (Option.bind (M.l_vCopying r13655.1 r13683.1) fun r13900 =>
  bif !r13900 then some true
  else (Option.bind (M.i_IsCopying r13621.1) fun r13907 =>
  Option.bind (M.s_IsCopying r13621.1) fun r13911 =>
  some (!(r13907 == r13911)))))) fun o13891 =>
  bif o13891 then some false
  else (Option.bind (α := (Unit) ⊕ (Bool)) (bif r13655.2.2 then (Option.bind (M.i_DirtyWords r13655.1) fun r14960 =>
  Option.bind (M.i_FinishCopy r13655.1) fun r14969 =>
  Option.bind (α := Bool) (bif !r14960.2 then some true
  else (bif !r14969.2.2 then some true
  else (bif r14969.2.1 != (r14960.1.length : Int) then some true
  else (Option.bind (M.l_vInts r14969.1 r13655.1.Memory) fun r14997 =>
  bif !r14997 then some true
  else (bif decide (r13655.2.1 > (w64 (r13621.2.2 * (r13621.2.1.length : Int)))) then some true
  else (Option.bind (M.i_IsCopying r13655.1) fun r15003 =>
  some (!r15003))))))) fun o14991 =>
  bif o14991 then some (.inr false)
  else (Option.bind (gxApp 8 ([] : List Int) r13621.1.Memory) fun ap15019 =>
  Option.bind (whileM (σ := Int × List Int) (ρ := List Int) (fun s15655 =>
    bif decide (s15655.1 < (r13621.2.1.length : Int)) then (Option.bind (whileM (σ := Int × List Int) (ρ := List Int) (fun s15867 =>
      Option.bind (gxIdx r13621.2.1 s15655.1) fun y15882 =>
      bif decide (s15867.1 < (y15882.length : Int)) then (Option.bind (gxIdx r13621.2.1 s15655.1) fun y15893 =>
      Option.bind (gxIdx y15893 s15867.1) fun y15897 =>
      Option.bind (gxIdx r13621.2.1 s15655.1) fun y15898 =>
      Option.bind (gxIdx y15898 s15867.1) fun y15902 =>
      Option.bind (gxIdx s15867.2 y15897.Word) fun y15974 =>
      some (.inl (w64 (s15867.1 + 1), (s15867.2.set y15897.Word.toNat y15902.Value))))
      else some (.inr s15867.2)) gxFuel (0, s15655.2)) fun out15874 =>
    some (.inl (w64 (s15655.1 + 1), out15874)))
    else some (.inr s15655.2)) gxFuel (0, ap15019)) fun out15662 =>
  Option.bind (M.l_vInts r14969.1 out15662) fun r15987 =>
  bif !r15987 then some (.inr false)
  else some (.inl ())))
  else some (.inl ())) fun out14958 => Sum.elim (fun (o14955 : Unit) =>
  Option.bind (M.s_DrawRoundsUntil x9795) fun r16183 =>
  Option.bind (M.i_RoundsUntil r16183.1 r16183.2.1 r16183.2.2.1 r16183.2.2.2) fun r16217 =>
  Option.bind (M.s_RoundsUntil r16183.1 r16183.2.1 r16183.2.2.1 r16183.2.2.2) fun r16221 =>
  Option.bind (α := Bool) (bif r16217.1 != r16221.1 then some true
  else some (!(r16217.2 == r16221.2))) fun o16226 =>
  bif o16226 then some false
  else (Option.bind (α := (Unit) ⊕ (Bool)) (bif r16217.2 then (Option.bind (gxSlice r16183.2.1 0 r16217.1) fun ys16586 =>
  Option.bind (M.i_RunRounds r16183.1 ys16586 r16183.2.2.1) fun r16596 =>
  Option.bind (M.i_DirtyWords r16596.1) fun r16674 =>
  Option.bind (α := Bool) (bif !r16596.2.2 then some true
  else (bif !r16674.2 then some true
  else some (decide ((r16674.1.length : Int) > r16183.2.2.2)))) fun o16685 =>
  bif o16685 then some (.inr false)
  else (Option.bind (α := (Unit) ⊕ (Bool)) (bif decide (r16217.1 > 0) then (Option.bind (gxSlice r16183.2.1 0 (w64 (r16217.1 - 1))) fun ys16814 =>
  Option.bind (M.i_RunRounds r16183.1 ys16814 r16183.2.2.1) fun r16820 =>
  Option.bind (M.i_DirtyWords r16820.1) fun r16902 =>
  Option.bind (α := Bool) (bif !r16820.2.2 then some true
  else (bif !r16902.2 then some true
  else some (decide ((r16902.1.length : Int) ≤ r16183.2.2.2)))) fun o16913 =>
  bif o16913 then some (.inr false)
  else some (.inl ()))
  else some (.inl ())) fun out16810 => Sum.elim (fun (o16807 : Unit) =>
  some (.inl ())) (fun r => some (.inr r)) out16810))
  else some (.inl ())) fun out16582 => Sum.elim (fun (o16579 : Unit) =>
  Option.bind (M.s_DrawFinishCopy x9795) fun r17026 =>
  Option.bind (M.i_FinishCopy r17026) fun r17054 =>
  Option.bind (M.s_FinishCopy r17026) fun r17063 =>
  Option.bind (α := Bool) (bif r17054.2.2 == r17063.2.2 then (bif r17054.2.1 == r17063.2.1 then (Option.bind (M.l_vInts r17054.1 r17063.1) fun r17083 =>
  some r17083)
  else some false)
  else some false) fun o17078 =>
  some o17078) (fun r => some r) out16582)) (fun r => some r) out14958))
def M.s_DrawCopyRound (x17101 : List Int) : Option (Copying × Int) :=
  Option.bind (M.s_l1Cur_copying (⟨x17101, 0, 0⟩ : l1Cur)) fun r17130 =>
  Option.bind (M.s_l1Cur_among (⟨x17101, r17130.2.1, r17130.2.2⟩ : l1Cur) [0, 1, 2, 3, 12, 13, (-1), 4]) fun r17156 =>
  some (r17130.1, r17156.1)
def M.s_DrawStoreWord (x17384 : List Int) : Option (Copying × Store) :=
  Option.bind (M.s_l1Cur_copying (⟨x17384, 0, 0⟩ : l1Cur)) fun r17417 =>
  Option.bind (M.s_l1Cur_storeIn (⟨x17384, r17417.2.1, r17417.2.2⟩ : l1Cur) (r17417.1.Memory.length : Int)) fun r17447 =>
  some (r17417.1, r17447.1)
def M.l_vHas (x17602 : List Int) (x17607 : Int) : Option (Bool) :=
  Option.bind (whileM (σ := Int) (ρ := (Unit) ⊕ (Bool)) (fun s17614 =>
    bif decide (s17614 < (x17602.length : Int)) then (Option.bind (gxIdx x17602 s17614) fun y17626 =>
    bif y17626 == x17607 then some (.inr (.inr true))
    else some (.inl (w64 (s17614 + 1))))
    else some (.inr (.inl ()))) gxFuel 0) fun out17621 => Sum.elim (fun (o17624 : Unit) =>
  some false) (fun r => some r) out17621
def M.s_DrawStartCopy (x17743 : List Int) : Option ((List Int)) :=
  Option.bind (M.s_l1Cur_memory (⟨x17743, 0, 0⟩ : l1Cur)) fun r17758 =>
  some r17758.1
def M.s_DrawDirtyWords (x17850 : List Int) : Option (Copying) :=
  Option.bind (M.s_DrawIsCopying x17850) fun r17874 =>
  some r17874
def M.l_FnRounds (x17091 : List Int) : Option (Bool) :=
  Option.bind (M.l_vBig x17091) fun r17096 =>
  bif r17096 then some true
  else (Option.bind (M.s_DrawCopyRound x17091) fun r17162 =>
  Option.bind (M.i_CopyRound r17162.1 r17162.2) fun r17190 =>
  Option.bind (M.s_CopyRound r17162.1 r17162.2) fun r17218 =>
  Option.bind (α := Bool) (bif !(r17190.2.2 == r17218.2.2) then some true
  else (bif r17190.2.1 != r17218.2.1 then some true
  else (Option.bind (M.l_vCopying r17190.1 r17218.1) fun r17257 =>
  some (!r17257)))) fun o17252 =>
  bif o17252 then some false
  else (Option.bind (α := (Unit) ⊕ (Bool)) (bif r17190.2.2 then (Option.bind (M.i_DirtyWords r17162.1) fun r17326 =>
  Option.bind (M.i_DirtyWords r17190.1) fun r17335 =>
  Option.bind (α := Bool) (bif !r17326.2 then some true
  else (bif !r17335.2 then some true
  else (bif (r17335.1.length : Int) != (w64 ((r17326.1.length : Int) - r17190.2.1)) then some true
  else (bif decide (r17190.2.1 > r17162.2) then some true
  else (bif decide (r17190.2.1 < r17162.2) then (bif (r17335.1.length : Int) != 0 then some true
  else (Option.bind (M.l_vInts r17190.1.Memory r17162.1.Memory) fun r17367 =>
  some (!r17367)))
  else (Option.bind (M.l_vInts r17190.1.Memory r17162.1.Memory) fun r17371 =>
  some (!r17371))))))) fun o17358 =>
  bif o17358 then some (.inr false)
  else some (.inl ()))
  else some (.inl ())) fun out17324 => Sum.elim (fun (o17321 : Unit) =>
  Option.bind (M.s_DrawStoreWord x17091) fun r17481 =>
  Option.bind (M.i_StoreWord r17481.1 r17481.2) fun r17515 =>
  Option.bind (M.s_StoreWord r17481.1 r17481.2) fun r17543 =>
  Option.bind (α := Bool) (bif !(r17515.2 == r17543.2) then some true
  else (Option.bind (M.l_vCopying r17515.1 r17543.1) fun r17580 =>
  some (!r17580))) fun o17576 =>
  bif o17576 then some false
  else (Option.bind (α := (Unit) ⊕ (Bool)) (bif r17515.2 then (Option.bind (M.i_DirtyWords r17515.1) fun r17682 =>
  Option.bind (α := Bool) (bif !r17682.2 then some true
  else (Option.bind (M.l_vHas r17682.1 r17481.2.Word) fun r17717 =>
  bif !r17717 then some true
  else (Option.bind (gxIdx r17515.1.Memory r17481.2.Word) fun y17724 =>
  bif y17724 != r17481.2.Value then some true
  else (Option.bind (M.l_vInts r17515.1.Copy r17481.1.Copy) fun r17728 =>
  some (!r17728))))) fun o17711 =>
  bif o17711 then some (.inr false)
  else some (.inl ()))
  else some (.inl ())) fun out17680 => Sum.elim (fun (o17677 : Unit) =>
  Option.bind (M.s_DrawStartCopy x17091) fun r17767 =>
  Option.bind (M.i_StartCopy r17767) fun r17776 =>
  Option.bind (M.s_StartCopy r17767) fun r17804 =>
  Option.bind (α := Bool) (bif !(r17776.2 == r17804.2) then some true
  else (Option.bind (M.l_vCopying r17776.1 r17804.1) fun r17841 =>
  some (!r17841))) fun o17837 =>
  bif o17837 then some false
  else (Option.bind (M.s_DrawDirtyWords x17091) fun r17895 =>
  Option.bind (M.i_DirtyWords r17895) fun r17923 =>
  Option.bind (M.s_DirtyWords r17895) fun r17932 =>
  Option.bind (α := Bool) (bif r17923.2 == r17932.2 then (Option.bind (M.l_vInts r17923.1 r17932.1) fun r17950 =>
  some r17950)
  else some false) fun o17946 =>
  some o17946)) (fun r => some r) out17680)) (fun r => some r) out17324))
end Go.Proofs.Ytjbblcdajdpfkaa
