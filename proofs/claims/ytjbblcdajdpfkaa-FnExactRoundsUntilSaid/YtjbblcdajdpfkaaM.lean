/- The models of the functions, printed by program: what each computes, in plain Lean. -/
import Derived.Test.YtjbblcdajdpfkaaGxI
set_option linter.unusedVariables false
set_option maxRecDepth 100000
set_option maxHeartbeats 4000000
namespace Go.Proofs.Ytjbblcdajdpfkaa
open Go.Gx
structure Copying where
  Memory : List Int
  Copy : List Int
  Dirty : List Bool
structure Store where
  Word : Int
  Value : Int
def encStore : Enc Store := ⟨fun x => [.int .i64 x.Word, .int .i64 x.Value], 2, fun _ => rfl, by simp [Value.oneCell']⟩
structure l1Cur where
  code : List Int
  at_ : Int
  seed : Int
def M.l_szIntS (x36 : List Int) (x41 : Int) : Option (Int) :=
  bif decide ((w64 (x41 - (x36.length : Int))) < 0) then some (-1)
  else some (w64 (x41 - (x36.length : Int)))
def M.l_szBoolS (x53 : List Bool) (x58 : Int) : Option (Int) :=
  bif decide ((w64 (x58 - (x53.length : Int))) < 0) then some (-1)
  else some (w64 (x58 - (x53.length : Int)))
def M.l_szCopying (x18 : Copying) (x31 : Int) : Option (Int) :=
  Option.bind (M.l_szIntS x18.Memory x31) fun r43 =>
  bif decide (r43 < 0) then some (-1)
  else (Option.bind (M.l_szIntS x18.Copy r43) fun r48 =>
  bif decide (r48 < 0) then some (-1)
  else (Option.bind (M.l_szBoolS x18.Dirty r48) fun r60 =>
  bif decide (r60 < 0) then some (-1)
  else some r60))
def M.l_toIntS (x113 : List Int) : Option ((List Int)) :=
  Option.bind (gxMake 8 (x113.length : Int) (0 : Int)) fun mk123 =>
  Option.bind (whileM (σ := Int × List Int) (ρ := List Int) (fun s147 =>
    bif decide (s147.1 < (x113.length : Int)) then (Option.bind (gxIdx x113 s147.1) fun y163 =>
    Option.bind (gxIdx s147.2 s147.1) fun y164 =>
    some (.inl (w64 (s147.1 + 1), (s147.2.set s147.1.toNat y163))))
    else some (.inr s147.2)) gxFuel (0, mk123)) fun out154 =>
  some out154
def M.l_toBoolS (x195 : List Bool) : Option ((List Bool)) :=
  Option.bind (gxMake 1 (x195.length : Int) (false : Bool)) fun mk205 =>
  Option.bind (whileM (σ := Int × List Bool) (ρ := List Bool) (fun s229 =>
    bif decide (s229.1 < (x195.length : Int)) then (Option.bind (gxIdx x195 s229.1) fun y245 =>
    Option.bind (gxIdx s229.2 s229.1) fun y246 =>
    some (.inl (w64 (s229.1 + 1), (s229.2.set s229.1.toNat y245))))
    else some (.inr s229.2)) gxFuel (0, mk205)) fun out236 =>
  some out236
def M.l_toCopying (x70 : Copying) : Option (Copying) :=
  Option.bind (M.l_toIntS x70.Memory) fun r173 =>
  Option.bind (M.l_toIntS x70.Copy) fun r184 =>
  Option.bind (M.l_toBoolS x70.Dirty) fun r255 =>
  some (⟨r173, r184, r255⟩ : Copying)
def M.s_l1In (x329 : Int) (x330 : Int) (x331 : Int) : Option (Bool) :=
  Option.bind (α := Bool) (bif decide (x329 ≥ x330) then some (decide (x329 ≤ x331))
  else some false) fun o333 =>
  some o333
def M.s_l2Word16 (x328 : Int) : Option (Bool) :=
  Option.bind (M.s_l1In x328 0 65535) fun r341 =>
  some r341
def M.s_l19Memory (x321 : List Int) : Option (Bool) :=
  Option.bind (whileM (σ := Int) (ρ := (Unit) ⊕ (Bool)) (fun s357 =>
    bif decide (s357 < (x321.length : Int)) then (Option.bind (gxIdx x321 s357) fun y369 =>
    Option.bind (M.s_l2Word16 y369) fun r370 =>
    bif !r370 then some (.inr (.inr false))
    else some (.inl (w64 (s357 + 1))))
    else some (.inr (.inl ()))) gxFuel 0) fun out364 => Sum.elim (fun (o367 : Unit) =>
  Option.bind (M.s_l1In (x321.length : Int) 1 12) fun r379 =>
  some r379) (fun r => some r) out364
def M.s_l19Good (x304 : Copying) : Option (Bool) :=
  Option.bind (α := Bool) (Option.bind (M.s_l19Memory x304.Memory) fun r397 =>
  bif !r397 then some true
  else (Option.bind (M.s_l19Memory x304.Copy) fun r402 =>
  bif !r402 then some true
  else (bif (x304.Copy.length : Int) != (x304.Memory.length : Int) then some true
  else some ((x304.Dirty.length : Int) != (x304.Memory.length : Int))))) fun o394 =>
  bif o394 then some false
  else (Option.bind (whileM (σ := Int) (ρ := (Unit) ⊕ (Bool)) (fun s463 =>
    bif decide (s463 < (x304.Memory.length : Int)) then (Option.bind (α := Bool) (Option.bind (gxIdx x304.Memory s463) fun y486 =>
    Option.bind (gxIdx x304.Copy s463) fun y487 =>
    bif y486 != y487 then (Option.bind (gxIdx x304.Dirty s463) fun y489 =>
    some (!y489))
    else some false) fun o483 =>
    bif o483 then some (.inr (.inr false))
    else some (.inl (w64 (s463 + 1))))
    else some (.inr (.inl ()))) gxFuel 0) fun out470 => Sum.elim (fun (o473 : Unit) =>
  some true) (fun r => some r) out470)
def M.s_IsCopying (x287 : Copying) : Option (Bool) :=
  Option.bind (M.s_l19Good x287) fun r503 =>
  some r503
def M.i_inside (x561 : Int) (x562 : Int) (x563 : Int) : Option (Bool) :=
  Option.bind (α := Bool) (bif decide (x561 ≥ x562) then some (decide (x561 ≤ x563))
  else some false) fun o565 =>
  some o565
def M.i_isWord16 (x591 : Int) : Option (Bool) :=
  Option.bind (M.i_inside x591 0 65535) fun r592 =>
  some r592
def M.i_isMemory_1 (x590 : Int) : Option (Bool) :=
  Option.bind (M.i_isWord16 x590) fun r596 =>
  some (!r596)
def M.slices_IndexFunc_105__i_isMemory_1 (x583 : List Int) : Option (Int) :=
  Option.bind (whileM (σ := Int) (ρ := (Unit) ⊕ (Int)) (fun s612 =>
    bif decide (s612 < (x583.length : Int)) then (Option.bind (gxIdx x583 s612) fun y624 =>
    Option.bind (M.i_isMemory_1 y624) fun r625 =>
    bif r625 then some (.inr (.inr s612))
    else some (.inl (w64 (s612 + 1))))
    else some (.inr (.inl ()))) gxFuel 0) fun out619 => Sum.elim (fun (o622 : Unit) =>
  some (-1)) (fun r => some r) out619
def M.slices_ContainsFunc_92__i_isMemory_1 (x578 : List Int) : Option (Bool) :=
  Option.bind (M.slices_IndexFunc_105__i_isMemory_1 x578) fun r634 =>
  some (decide (r634 ≥ 0))
def M.i_isMemory (x556 : List Int) : Option (Bool) :=
  Option.bind (α := Bool) (Option.bind (M.i_inside (x556.length : Int) 1 12) fun r645 =>
  bif r645 then (Option.bind (M.slices_ContainsFunc_92__i_isMemory_1 x556) fun r650 =>
  some (!r650))
  else some false) fun o642 =>
  some o642
def M.i_IsCopying (x539 : Copying) : Option (Bool) :=
  Option.bind (α := Bool) (Option.bind (M.i_isMemory x539.Memory) fun r672 =>
  bif !r672 then some true
  else (Option.bind (M.i_isMemory x539.Copy) fun r677 =>
  bif !r677 then some true
  else (bif (x539.Copy.length : Int) != (x539.Memory.length : Int) then some true
  else some ((x539.Dirty.length : Int) != (x539.Memory.length : Int))))) fun o669 =>
  bif o669 then some false
  else (Option.bind (whileM (σ := Int) (ρ := (Unit) ⊕ (Bool)) (fun s720 =>
    bif decide (s720 < (x539.Memory.length : Int)) then (Option.bind (gxIdx x539.Memory s720) fun y732 =>
    Option.bind (α := Bool) (Option.bind (gxIdx x539.Copy s720) fun y739 =>
    bif y739 != y732 then (Option.bind (gxIdx x539.Dirty s720) fun y741 =>
    some (!y741))
    else some false) fun o736 =>
    bif o736 then some (.inr (.inr false))
    else some (.inl (w64 (s720 + 1))))
    else some (.inr (.inl ()))) gxFuel 0) fun out727 => Sum.elim (fun (o730 : Unit) =>
  some true) (fun r => some r) out727)
def M.l_eqIntS (x824 : List Int) (x829 : List Int) : Option (Bool) :=
  bif (x824.length : Int) != (x829.length : Int) then some false
  else (Option.bind (whileM (σ := Int) (ρ := (Unit) ⊕ (Bool)) (fun s847 =>
    bif decide (s847 < (x824.length : Int)) then (Option.bind (gxIdx x824 s847) fun y859 =>
    Option.bind (gxIdx x829 s847) fun y860 =>
    bif y859 != y860 then some (.inr (.inr false))
    else some (.inl (w64 (s847 + 1))))
    else some (.inr (.inl ()))) gxFuel 0) fun out854 => Sum.elim (fun (o857 : Unit) =>
  some true) (fun r => some r) out854)
def M.l_eqBoolS (x878 : List Bool) (x883 : List Bool) : Option (Bool) :=
  bif (x878.length : Int) != (x883.length : Int) then some false
  else (Option.bind (whileM (σ := Int) (ρ := (Unit) ⊕ (Bool)) (fun s901 =>
    bif decide (s901 < (x878.length : Int)) then (Option.bind (gxIdx x878 s901) fun y913 =>
    Option.bind (gxIdx x883 s901) fun y914 =>
    bif !(y913 == y914) then some (.inr (.inr false))
    else some (.inl (w64 (s901 + 1))))
    else some (.inr (.inl ()))) gxFuel 0) fun out908 => Sum.elim (fun (o911 : Unit) =>
  some true) (fun r => some r) out908)
def M.l_eqCopying (x790 : Copying) (x803 : Copying) : Option (Bool) :=
  Option.bind (M.l_eqIntS x790.Memory x803.Memory) fun r868 =>
  bif !r868 then some false
  else (Option.bind (M.l_eqIntS x790.Copy x803.Copy) fun r873 =>
  bif !r873 then some false
  else (Option.bind (M.l_eqBoolS x790.Dirty x803.Dirty) fun r922 =>
  bif !r922 then some false
  else some true))
def M.l_FnExactIsCopying (x1 : Copying) : Option (Bool) :=
  Option.bind (M.l_szCopying x1 1048576) fun r65 =>
  bif decide (r65 < 0) then some true
  else (Option.bind (M.l_toCopying x1) fun r268 =>
  Option.bind (M.s_IsCopying r268) fun r507 =>
  Option.bind (M.l_toCopying x1) fun r511 =>
  Option.bind (M.i_IsCopying r511) fun r751 =>
  bif !(r751 == r507) then some false
  else (Option.bind (M.l_toCopying x1) fun r758 =>
  Option.bind (M.l_eqCopying r511 r758) fun r927 =>
  bif !r927 then some false
  else some true))
def M.s_l1Own (x983 : List Int) : Option ((List Int)) :=
  Option.bind (gxApp 8 ([] : List Int) x983) fun ap1000 =>
  some ap1000
def M.s_StartCopy (x947 : List Int) : Option (Copying × Bool) :=
  Option.bind (M.s_l19Memory x947) fun r971 =>
  bif !r971 then some ((⟨([] : List Int), ([] : List Int), ([] : List Bool)⟩ : Copying), false)
  else (Option.bind (M.s_l1Own x947) fun r1008 =>
  Option.bind (gxMake 8 (x947.length : Int) (0 : Int)) fun mk1014 =>
  Option.bind (whileM (σ := Int × List Bool) (ρ := List Bool) (fun s1112 =>
    bif decide (s1112.1 < (x947.length : Int)) then (Option.bind (gxApp 1 s1112.2 [true]) fun ap1141 =>
    some (.inl (w64 (s1112.1 + 1), ap1141)))
    else some (.inr s1112.2)) gxFuel (0, ([] : List Bool))) fun out1119 =>
  some ((⟨r1008, mk1014, out1119⟩ : Copying), true))
def M.i_copyInts (x1230 : List Int) : Option ((List Int)) :=
  Option.bind (gxApp 8 ([] : List Int) x1230) fun ap1247 =>
  some ap1247
def M.i_StartCopy (x1194 : List Int) : Option (Copying × Bool) :=
  Option.bind (M.i_isMemory x1194) fun r1218 =>
  bif !r1218 then some ((⟨([] : List Int), ([] : List Int), ([] : List Bool)⟩ : Copying), false)
  else (Option.bind (M.i_copyInts x1194) fun r1255 =>
  Option.bind (gxMake 8 (x1194.length : Int) (0 : Int)) fun mk1261 =>
  Option.bind (whileM (σ := Int × List Bool) (ρ := List Bool) (fun s1359 =>
    bif decide (s1359.1 < (x1194.length : Int)) then (Option.bind (gxApp 1 s1359.2 [true]) fun ap1388 =>
    some (.inl (w64 (s1359.1 + 1), ap1388)))
    else some (.inr s1359.2)) gxFuel (0, ([] : List Bool))) fun out1366 =>
  some ((⟨r1255, mk1261, out1366⟩ : Copying), true))
def M.l_markIntS (x1464 : List Int) (x1470 : Int) : Option (Int × (List Int)) :=
  Option.bind (whileM (σ := Int × Int × List Int) (ρ := Int × List Int) (fun s1487 =>
    bif decide (s1487.2.1 < (s1487.2.2.length : Int)) then (Option.bind (gxIdx s1487.2.2 s1487.2.1) fun y1505 =>
    some (.inl (w64 (s1487.1 + 1), w64 (s1487.2.1 + 1), (s1487.2.2.set s1487.2.1.toNat s1487.1))))
    else some (.inr (s1487.1, s1487.2.2))) gxFuel (x1470, 0, x1464)) fun out1494 =>
  some (out1494.1, out1494.2)
def M.l_markBoolS (x1581 : List Bool) (x1587 : Int) : Option (Int × (List Bool)) :=
  Option.bind (whileM (σ := Int × Int × List Bool) (ρ := Int × List Bool) (fun s1604 =>
    bif decide (s1604.2.1 < (s1604.2.2.length : Int)) then (Option.bind (gxIdx s1604.2.2 s1604.2.1) fun y1622 =>
    some (.inl (w64 (s1604.1 + 1), w64 (s1604.2.1 + 1), (s1604.2.2.set s1604.2.1.toNat ((s1604.1.tmod 3) == 0)))))
    else some (.inr (s1604.1, s1604.2.2))) gxFuel (x1587, 0, x1581)) fun out1611 =>
  some (out1611.1, out1611.2)
def M.l_markCopying (x1541 : Copying) (x1557 : Int) : Option (Int × (List Int) × (List Int) × (List Bool)) :=
  Option.bind (M.l_markIntS x1541.Memory x1557) fun r1565 =>
  Option.bind (M.l_markIntS x1541.Copy r1565.1) fun r1573 =>
  Option.bind (M.l_markBoolS x1541.Dirty r1573.1) fun r1631 =>
  some (r1631.1, r1565.2, r1573.2, r1631.2)
def M.l_heldIntS (x1671 : List Int) (x1676 : Int) : Option (Int) :=
  Option.bind (whileM (σ := Int × Int) (ρ := (Int) ⊕ (Int)) (fun s1683 =>
    bif decide (s1683.2 < (x1671.length : Int)) then (Option.bind (gxIdx x1671 s1683.2) fun y1695 =>
    bif y1695 != s1683.1 then some (.inr (.inr (-1)))
    else some (.inl (w64 (s1683.1 + 1), w64 (s1683.2 + 1))))
    else some (.inr (.inl s1683.1))) gxFuel (x1676, 0)) fun out1690 => Sum.elim (fun (o1693 : Int) =>
  some o1693) (fun r => some r) out1690
def M.l_heldBoolS (x1711 : List Bool) (x1716 : Int) : Option (Int) :=
  Option.bind (whileM (σ := Int × Int) (ρ := (Int) ⊕ (Int)) (fun s1723 =>
    bif decide (s1723.2 < (x1711.length : Int)) then (Option.bind (gxIdx x1711 s1723.2) fun y1735 =>
    bif !(y1735 == ((s1723.1.tmod 3) == 0)) then some (.inr (.inr (-1)))
    else some (.inl (w64 (s1723.1 + 1), w64 (s1723.2 + 1))))
    else some (.inr (.inl s1723.1))) gxFuel (x1716, 0)) fun out1730 => Sum.elim (fun (o1733 : Int) =>
  some o1733) (fun r => some r) out1730
def M.l_heldCopying (x1653 : Copying) (x1666 : Int) : Option (Int) :=
  Option.bind (M.l_heldIntS x1653.Memory x1666) fun r1701 =>
  bif decide (r1701 < 0) then some (-1)
  else (Option.bind (M.l_heldIntS x1653.Copy r1701) fun r1706 =>
  bif decide (r1706 < 0) then some (-1)
  else (Option.bind (M.l_heldBoolS x1653.Dirty r1706) fun r1741 =>
  bif decide (r1741 < 0) then some (-1)
  else some r1741))
def M.l_FnExactStartCopy (x932 : List Int) : Option (Bool) :=
  bif decide ((x932.length : Int) > 1048576) then some true
  else (Option.bind (M.l_toIntS x932) fun r938 =>
  Option.bind (M.s_StartCopy r938) fun r1157 =>
  Option.bind (M.l_toIntS x932) fun r1185 =>
  Option.bind (M.i_StartCopy r1185) fun r1404 =>
  Option.bind (α := Bool) (Option.bind (M.l_eqCopying r1404.1 r1157.1) fun r1440 =>
  bif !r1440 then some true
  else some (!(r1404.2 == r1157.2))) fun o1437 =>
  bif o1437 then some false
  else (Option.bind (M.l_toIntS x932) fun r1450 =>
  Option.bind (M.l_eqIntS r1185 r1450) fun r1459 =>
  bif !r1459 then some false
  else (Option.bind (M.l_markIntS r1185 1) fun r1514 =>
  Option.bind (α := Bool) (bif decide (r1514.1 < 0) then some true
  else (Option.bind (M.l_eqCopying r1404.1 r1157.1) fun r1531 =>
  bif !r1531 then some true
  else some (!(r1404.2 == r1157.2)))) fun o1527 =>
  bif o1527 then some false
  else (Option.bind (M.l_markCopying r1404.1 1) fun r1639 =>
  Option.bind (M.l_heldCopying (⟨r1639.2.1, r1639.2.2.1, r1639.2.2.2⟩ : Copying) 1) fun r1746 =>
  bif decide (r1746 < 0) then some false
  else (bif r1746 != r1639.1 then some false
  else (Option.bind (M.l_toIntS x932) fun r1752 =>
  Option.bind (M.i_StartCopy r1752) fun r1761 =>
  Option.bind (α := Bool) (Option.bind (M.l_eqCopying r1761.1 r1157.1) fun r1797 =>
  bif !r1797 then some true
  else some (!(r1761.2 == r1157.2))) fun o1794 =>
  bif o1794 then some false
  else (Option.bind (M.l_heldCopying (⟨r1639.2.1, r1639.2.2.1, r1639.2.2.2⟩ : Copying) 1) fun r1807 =>
  bif decide (r1807 < 0) then some false
  else (bif r1807 != r1639.1 then some false
  else some true))))))))
def M.s_l19Dirty (x1888 : Copying) : Option ((List Int)) :=
  Option.bind (whileM (σ := List Int × Int) (ρ := List Int) (fun s2014 =>
    bif decide (s2014.2 < (x1888.Dirty.length : Int)) then (Option.bind (gxIdx x1888.Dirty s2014.2) fun y2036 =>
    Option.bind (α := List Int) (bif y2036 then (Option.bind (gxApp 8 s2014.1 [s2014.2]) fun ap2069 =>
    some ap2069)
    else some s2014.1) fun o2053 =>
    some (.inl (o2053, w64 (s2014.2 + 1))))
    else some (.inr s2014.1)) gxFuel (([] : List Int), 0)) fun out2021 =>
  some out2021
def M.s_DirtyWords (x1854 : Copying) : Option ((List Int) × Bool) :=
  Option.bind (M.s_l19Good x1854) fun r1876 =>
  bif !r1876 then some (([] : List Int), false)
  else (Option.bind (M.s_l19Dirty x1854) fun r2085 =>
  some (r2085, true))
def M.i_dirtyWords (x2159 : Copying) : Option ((List Int)) :=
  Option.bind (whileM (σ := List Int × Int) (ρ := List Int) (fun s2285 =>
    bif decide (s2285.2 < (x2159.Dirty.length : Int)) then (Option.bind (gxIdx x2159.Dirty s2285.2) fun y2307 =>
    Option.bind (α := List Int) (bif y2307 then (Option.bind (gxApp 8 s2285.1 [s2285.2]) fun ap2340 =>
    some ap2340)
    else some s2285.1) fun o2324 =>
    some (.inl (o2324, w64 (s2285.2 + 1))))
    else some (.inr s2285.1)) gxFuel (([] : List Int), 0)) fun out2292 =>
  some out2292
def M.i_DirtyWords (x2131 : Copying) : Option ((List Int) × Bool) :=
  Option.bind (M.i_IsCopying x2131) fun r2153 =>
  bif !r2153 then some (([] : List Int), false)
  else (Option.bind (M.i_dirtyWords x2131) fun r2356 =>
  some (r2356, true))
def M.l_FnExactDirtyWords (x1813 : Copying) : Option (Bool) :=
  Option.bind (M.l_szCopying x1813 1048576) fun r1830 =>
  bif decide (r1830 < 0) then some true
  else (Option.bind (M.l_toCopying x1813) fun r1835 =>
  Option.bind (M.s_DirtyWords r1835) fun r2094 =>
  Option.bind (M.l_toCopying x1813) fun r2103 =>
  Option.bind (M.i_DirtyWords r2103) fun r2365 =>
  Option.bind (α := Bool) (Option.bind (M.l_eqIntS r2365.1 r2094.1) fun r2382 =>
  bif !r2382 then some true
  else some (!(r2365.2 == r2094.2))) fun o2379 =>
  bif o2379 then some false
  else (Option.bind (M.l_toCopying x1813) fun r2394 =>
  Option.bind (M.l_eqCopying r2103 r2394) fun r2426 =>
  bif !r2426 then some false
  else (Option.bind (M.l_markCopying r2103 1) fun r2431 =>
  Option.bind (α := Bool) (bif decide (r2431.1 < 0) then some true
  else (Option.bind (M.l_eqIntS r2365.1 r2094.1) fun r2455 =>
  bif !r2455 then some true
  else some (!(r2365.2 == r2094.2)))) fun o2451 =>
  bif o2451 then some false
  else (Option.bind (M.l_markIntS r2365.1 1) fun r2465 =>
  Option.bind (M.l_heldIntS r2465.2 1) fun r2472 =>
  bif decide (r2472 < 0) then some false
  else (bif r2472 != r2465.1 then some false
  else (Option.bind (M.l_toCopying x1813) fun r2478 =>
  Option.bind (M.i_DirtyWords r2478) fun r2497 =>
  Option.bind (α := Bool) (Option.bind (M.l_eqIntS r2497.1 r2094.1) fun r2514 =>
  bif !r2514 then some true
  else some (!(r2497.2 == r2094.2))) fun o2511 =>
  bif o2511 then some false
  else (Option.bind (M.l_heldIntS r2465.2 1) fun r2524 =>
  bif decide (r2524 < 0) then some false
  else (bif r2524 != r2465.1 then some false
  else some true))))))))
def M.s_l19Own (x2642 : Copying) : Option (Copying) :=
  Option.bind (M.s_l1Own x2642.Memory) fun r2680 =>
  Option.bind (M.s_l1Own x2642.Copy) fun r2686 =>
  Option.bind (gxApp 1 ([] : List Bool) x2642.Dirty) fun ap2738 =>
  some (⟨r2680, r2686, ap2738⟩ : Copying)
def M.s_l19Round (x2605 : Copying) (x2618 : Int) : Option (Copying × Int) :=
  Option.bind (M.s_l19Own x2605) fun r2751 =>
  Option.bind (whileM (σ := Int × Int × List Int × List Bool) (ρ := Int × List Int × List Bool) (fun s3031 =>
    Option.bind (α := Bool) (bif decide (s3031.2.1 < (x2605.Dirty.length : Int)) then some (decide (s3031.1 < x2618))
    else some false) fun o3051 =>
    bif o3051 then (Option.bind (gxIdx x2605.Dirty s3031.2.1) fun y3060 =>
    Option.bind (α := Int × List Int × List Bool) (bif y3060 then (Option.bind (gxIdx x2605.Memory s3031.2.1) fun y3122 =>
    Option.bind (gxIdx s3031.2.2.1 s3031.2.1) fun y3158 =>
    Option.bind (gxIdx s3031.2.2.2 s3031.2.1) fun y3164 =>
    some (w64 (s3031.1 + 1), (s3031.2.2.1.set s3031.2.1.toNat y3122), (s3031.2.2.2.set s3031.2.1.toNat false)))
    else some (s3031.1, s3031.2.2.1, s3031.2.2.2)) fun o3112 =>
    some (.inl (o3112.1, w64 (s3031.2.1 + 1), o3112.2.1, o3112.2.2)))
    else some (.inr (s3031.1, s3031.2.2.1, s3031.2.2.2))) gxFuel (0, 0, r2751.Copy, r2751.Dirty)) fun out3038 =>
  some ((⟨r2751.Memory, out3038.2.1, out3038.2.2⟩ : Copying), out3038.1)
def M.s_FinishCopy (x2571 : Copying) : Option ((List Int) × Int × Bool) :=
  Option.bind (M.s_l19Good x2571) fun r2593 =>
  bif !r2593 then some (([] : List Int), 0, false)
  else (Option.bind (M.s_l19Round x2571 12) fun r3180 =>
  some (r3180.1.Copy, r3180.2, true))
def M.i_FinishCopy (x3245 : Copying) : Option ((List Int) × Int × Bool) :=
  Option.bind (M.i_IsCopying x3245) fun r3267 =>
  bif !r3267 then some (([] : List Int), 0, false)
  else (Option.bind (M.i_copyInts x3245.Memory) fun r3275 =>
  Option.bind (M.i_dirtyWords x3245) fun r3281 =>
  some (r3275, (r3281.length : Int), true))
def M.l_FnExactFinishCopy (x2530 : Copying) : Option (Bool) :=
  Option.bind (M.l_szCopying x2530 1048576) fun r2547 =>
  bif decide (r2547 < 0) then some true
  else (Option.bind (M.l_toCopying x2530) fun r2552 =>
  Option.bind (M.s_FinishCopy r2552) fun r3208 =>
  Option.bind (M.l_toCopying x2530) fun r3217 =>
  Option.bind (M.i_FinishCopy r3217) fun r3320 =>
  Option.bind (α := Bool) (Option.bind (M.l_eqIntS r3320.1 r3208.1) fun r3338 =>
  bif !r3338 then some true
  else (bif r3320.2.1 != r3208.2.1 then some true
  else some (!(r3320.2.2 == r3208.2.2)))) fun o3335 =>
  bif o3335 then some false
  else (Option.bind (M.l_toCopying x2530) fun r3351 =>
  Option.bind (M.l_eqCopying r3217 r3351) fun r3383 =>
  bif !r3383 then some false
  else (Option.bind (M.l_markCopying r3217 1) fun r3388 =>
  Option.bind (α := Bool) (bif decide (r3388.1 < 0) then some true
  else (Option.bind (M.l_eqIntS r3320.1 r3208.1) fun r3413 =>
  bif !r3413 then some true
  else (bif r3320.2.1 != r3208.2.1 then some true
  else some (!(r3320.2.2 == r3208.2.2))))) fun o3409 =>
  bif o3409 then some false
  else (Option.bind (M.l_markIntS r3320.1 1) fun r3424 =>
  Option.bind (M.l_heldIntS r3424.2 1) fun r3431 =>
  bif decide (r3431 < 0) then some false
  else (bif r3431 != r3424.1 then some false
  else (Option.bind (M.l_toCopying x2530) fun r3437 =>
  Option.bind (M.i_FinishCopy r3437) fun r3456 =>
  Option.bind (α := Bool) (Option.bind (M.l_eqIntS r3456.1 r3208.1) fun r3474 =>
  bif !r3474 then some true
  else (bif r3456.2.1 != r3208.2.1 then some true
  else some (!(r3456.2.2 == r3208.2.2)))) fun o3471 =>
  bif o3471 then some false
  else (Option.bind (M.l_heldIntS r3424.2 1) fun r3485 =>
  bif decide (r3485 < 0) then some false
  else (bif r3485 != r3424.1 then some false
  else some true))))))))
def M.l_toStore (x3536 : Store) : Option (Store) :=
  some x3536
def M.s_l19Store (x3602 : Copying) (x3615 : Store) : Option (Bool) :=
  Option.bind (α := Bool) (Option.bind (M.s_l1In x3615.Word 0 (w64 ((x3602.Memory.length : Int) - 1))) fun r3636 =>
  bif r3636 then (Option.bind (M.s_l2Word16 x3615.Value) fun r3641 =>
  some r3641)
  else some false) fun o3633 =>
  some o3633
def M.s_l19Write (x3675 : Copying) (x3688 : Store) : Option (Copying) :=
  Option.bind (M.s_l19Own x3675) fun r3716 =>
  Option.bind (gxIdx r3716.Memory x3688.Word) fun y3744 =>
  Option.bind (gxIdx r3716.Dirty x3688.Word) fun y3750 =>
  some (⟨(r3716.Memory.set x3688.Word.toNat x3688.Value), r3716.Copy, (r3716.Dirty.set x3688.Word.toNat true)⟩ : Copying)
def M.s_StoreWord (x3556 : Copying) (x3569 : Store) : Option (Copying × Bool) :=
  Option.bind (α := Bool) (Option.bind (M.s_l19Good x3556) fun r3656 =>
  bif !r3656 then some true
  else (Option.bind (M.s_l19Store x3556 x3569) fun r3661 =>
  some (!r3661))) fun o3653 =>
  bif o3653 then some ((⟨([] : List Int), ([] : List Int), ([] : List Bool)⟩ : Copying), false)
  else (Option.bind (M.s_l19Write x3556 x3569) fun r3758 =>
  some (r3758, true))
def M.i_isStore (x3925 : Copying) (x3938 : Store) : Option (Bool) :=
  Option.bind (α := Bool) (Option.bind (M.i_inside x3938.Word 0 (w64 ((x3925.Memory.length : Int) - 1))) fun r3959 =>
  bif r3959 then (Option.bind (M.i_isWord16 x3938.Value) fun r3964 =>
  some r3964)
  else some false) fun o3956 =>
  some o3956
def M.i_newCopying (x3998 : Copying) : Option (Copying) :=
  Option.bind (M.i_copyInts x3998.Memory) fun r4036 =>
  Option.bind (M.i_copyInts x3998.Copy) fun r4042 =>
  Option.bind (gxApp 1 ([] : List Bool) x3998.Dirty) fun ap4094 =>
  some (⟨r4036, r4042, ap4094⟩ : Copying)
def M.i_Copying_store (x4135 : Copying) (x4153 : Store) : Option ((List Int) × (List Int) × (List Bool)) :=
  Option.bind (gxIdx x4135.Memory x4153.Word) fun y4169 =>
  Option.bind (gxIdx x4135.Dirty x4153.Word) fun y4242 =>
  some ((x4135.Memory.set x4153.Word.toNat x4153.Value), x4135.Copy, (x4135.Dirty.set x4153.Word.toNat true))
def M.i_StoreWord (x3879 : Copying) (x3892 : Store) : Option (Copying × Bool) :=
  Option.bind (α := Bool) (Option.bind (M.i_IsCopying x3879) fun r3979 =>
  bif !r3979 then some true
  else (Option.bind (M.i_isStore x3879 x3892) fun r3984 =>
  some (!r3984))) fun o3976 =>
  bif o3976 then some ((⟨([] : List Int), ([] : List Int), ([] : List Bool)⟩ : Copying), false)
  else (Option.bind (M.i_newCopying x3879) fun r4107 =>
  Option.bind (M.i_Copying_store r4107 x3892) fun r4248 =>
  some ((⟨r4248.1, r4248.2.1, r4248.2.2⟩ : Copying), true))
def M.l_FnExactStoreWord (x3491 : Copying) (x3504 : Store) : Option (Bool) :=
  Option.bind (M.l_szCopying x3491 1048576) fun r3513 =>
  bif decide (r3513 < 0) then some true
  else (Option.bind (M.l_toCopying x3491) fun r3520 =>
  Option.bind (M.l_toStore x3504) fun r3555 =>
  Option.bind (M.s_StoreWord r3520 r3555) fun r3779 =>
  Option.bind (M.l_toCopying x3491) fun r3848 =>
  Option.bind (M.l_toStore x3504) fun r3878 =>
  Option.bind (M.i_StoreWord r3848 r3878) fun r4269 =>
  Option.bind (α := Bool) (Option.bind (M.l_eqCopying r4269.1 r3779.1) fun r4340 =>
  bif !r4340 then some true
  else some (!(r4269.2 == r3779.2))) fun o4337 =>
  bif o4337 then some false
  else (Option.bind (M.l_toCopying x3491) fun r4352 =>
  Option.bind (M.l_eqCopying r3848 r4352) fun r4384 =>
  bif !r4384 then some false
  else (Option.bind (M.l_markCopying r3848 1) fun r4389 =>
  Option.bind (α := Bool) (bif decide (r4389.1 < 0) then some true
  else (Option.bind (M.l_eqCopying r4269.1 r3779.1) fun r4413 =>
  bif !r4413 then some true
  else some (!(r4269.2 == r3779.2)))) fun o4409 =>
  bif o4409 then some false
  else (Option.bind (M.l_markCopying r4269.1 1) fun r4423 =>
  Option.bind (M.l_heldCopying (⟨r4423.2.1, r4423.2.2.1, r4423.2.2.2⟩ : Copying) 1) fun r4437 =>
  bif decide (r4437 < 0) then some false
  else (bif r4437 != r4423.1 then some false
  else (Option.bind (M.l_toCopying x3491) fun r4445 =>
  Option.bind (M.l_toStore x3504) fun r4461 =>
  Option.bind (M.i_StoreWord r4445 r4461) fun r4462 =>
  Option.bind (α := Bool) (Option.bind (M.l_eqCopying r4462.1 r3779.1) fun r4539 =>
  bif !r4539 then some true
  else some (!(r4462.2 == r3779.2))) fun o4536 =>
  bif o4536 then some false
  else (Option.bind (M.l_heldCopying (⟨r4423.2.1, r4423.2.2.1, r4423.2.2.2⟩ : Copying) 1) fun r4549 =>
  bif decide (r4549 < 0) then some false
  else (bif r4549 != r4423.1 then some false
  else some true))))))))
def M.s_CopyRound (x4597 : Copying) (x4610 : Int) : Option (Copying × Int × Bool) :=
  Option.bind (α := Bool) (Option.bind (M.s_l19Good x4597) fun r4646 =>
  bif !r4646 then some true
  else (Option.bind (M.s_l1In x4610 0 12) fun r4651 =>
  some (!r4651))) fun o4643 =>
  bif o4643 then some ((⟨([] : List Int), ([] : List Int), ([] : List Bool)⟩ : Copying), 0, false)
  else (Option.bind (M.s_l19Round x4597 x4610) fun r4665 =>
  some (r4665.1, r4665.2, true))
def M.i_Copying_round (x4847 : Copying) (x4865 : Int) : Option (Int × (List Int) × (List Int) × (List Bool)) :=
  Option.bind (whileM (σ := Int × Int × List Int × List Bool) (ρ := Int × List Int × List Bool) (fun s5303 =>
    bif decide (s5303.2.1 < (x4847.Dirty.length : Int)) then (Option.bind (gxIdx s5303.2.2.2 s5303.2.1) fun y5323 =>
    Option.bind (α := Bool) (bif y5323 then some (decide (s5303.1 < x4865))
    else some false) fun o5325 =>
    Option.bind (α := Int × List Int × List Bool) (bif o5325 then (Option.bind (gxIdx x4847.Memory s5303.2.1) fun y5438 =>
    Option.bind (gxIdx s5303.2.2.1 s5303.2.1) fun y5439 =>
    Option.bind (gxIdx s5303.2.2.2 s5303.2.1) fun y5524 =>
    some (w64 (s5303.1 + 1), (s5303.2.2.1.set s5303.2.1.toNat y5438), (s5303.2.2.2.set s5303.2.1.toNat false)))
    else some (s5303.1, s5303.2.2.1, s5303.2.2.2)) fun o5428 =>
    some (.inl (o5428.1, w64 (s5303.2.1 + 1), o5428.2.1, o5428.2.2)))
    else some (.inr (s5303.1, s5303.2.2.1, s5303.2.2.2))) gxFuel (0, 0, x4847.Copy, x4847.Dirty)) fun out5310 =>
  some (out5310.1, x4847.Memory, out5310.2.1, out5310.2.2)
def M.i_CopyRound (x4751 : Copying) (x4764 : Int) : Option (Copying × Int × Bool) :=
  Option.bind (α := Bool) (Option.bind (M.i_IsCopying x4751) fun r4800 =>
  bif !r4800 then some true
  else (Option.bind (M.i_inside x4764 0 12) fun r4805 =>
  some (!r4805))) fun o4797 =>
  bif o4797 then some ((⟨([] : List Int), ([] : List Int), ([] : List Bool)⟩ : Copying), 0, false)
  else (Option.bind (M.i_newCopying x4751) fun r4819 =>
  Option.bind (M.i_Copying_round r4819 x4764) fun r5538 =>
  some ((⟨r5538.2.1, r5538.2.2.1, r5538.2.2.2⟩ : Copying), r5538.1, true))
def M.l_FnExactCopyRound (x4555 : Copying) (x4568 : Int) : Option (Bool) :=
  Option.bind (M.l_szCopying x4555 1048576) fun r4573 =>
  bif decide (r4573 < 0) then some true
  else (Option.bind (M.l_toCopying x4555) fun r4578 =>
  Option.bind (M.s_CopyRound r4578 x4568) fun r4695 =>
  Option.bind (M.l_toCopying x4555) fun r4723 =>
  Option.bind (M.i_CopyRound r4723 x4568) fun r5559 =>
  Option.bind (α := Bool) (Option.bind (M.l_eqCopying r5559.1 r4695.1) fun r5596 =>
  bif !r5596 then some true
  else (bif r5559.2.1 != r4695.2.1 then some true
  else some (!(r5559.2.2 == r4695.2.2)))) fun o5593 =>
  bif o5593 then some false
  else (Option.bind (M.l_toCopying x4555) fun r5609 =>
  Option.bind (M.l_eqCopying r4723 r5609) fun r5641 =>
  bif !r5641 then some false
  else (Option.bind (M.l_markCopying r4723 1) fun r5646 =>
  Option.bind (α := Bool) (bif decide (r5646.1 < 0) then some true
  else (Option.bind (M.l_eqCopying r5559.1 r4695.1) fun r5671 =>
  bif !r5671 then some true
  else (bif r5559.2.1 != r4695.2.1 then some true
  else some (!(r5559.2.2 == r4695.2.2))))) fun o5667 =>
  bif o5667 then some false
  else (Option.bind (M.l_markCopying r5559.1 1) fun r5682 =>
  Option.bind (M.l_heldCopying (⟨r5682.2.1, r5682.2.2.1, r5682.2.2.2⟩ : Copying) 1) fun r5696 =>
  bif decide (r5696 < 0) then some false
  else (bif r5696 != r5682.1 then some false
  else (Option.bind (M.l_toCopying x4555) fun r5702 =>
  Option.bind (M.i_CopyRound r5702 x4568) fun r5721 =>
  Option.bind (α := Bool) (Option.bind (M.l_eqCopying r5721.1 r4695.1) fun r5758 =>
  bif !r5758 then some true
  else (bif r5721.2.1 != r4695.2.1 then some true
  else some (!(r5721.2.2 == r4695.2.2)))) fun o5755 =>
  bif o5755 then some false
  else (Option.bind (M.l_heldCopying (⟨r5682.2.1, r5682.2.2.1, r5682.2.2.2⟩ : Copying) 1) fun r5769 =>
  bif decide (r5769 < 0) then some false
  else (bif r5769 != r5682.1 then some false
  else some true))))))))
def M.l_szStoreS (x5820 : List Store) (x5825 : Int) : Option (Int) :=
  bif decide ((w64 (x5825 - (x5820.length : Int))) < 0) then some (-1)
  else some (w64 (x5825 - (x5820.length : Int)))
def M.l_szStoreSS (x5804 : List (List Store)) (x5809 : Int) : Option (Int) :=
  bif decide ((w64 (x5809 - (x5804.length : Int))) < 0) then some (-1)
  else (Option.bind (whileM (σ := Int × Int) (ρ := (Int) ⊕ (Int)) (fun s5846 =>
    bif decide (s5846.2 < (x5804.length : Int)) then (Option.bind (gxIdx x5804 s5846.2) fun y5858 =>
    Option.bind (M.l_szStoreS y5858 s5846.1) fun r5866 =>
    bif decide (r5866 < 0) then some (.inr (.inr (-1)))
    else some (.inl (r5866, w64 (s5846.2 + 1))))
    else some (.inr (.inl s5846.1))) gxFuel (w64 (x5809 - (x5804.length : Int)), 0)) fun out5853 => Sum.elim (fun (o5856 : Int) =>
  some o5856) (fun r => some r) out5853)
def M.l_toStoreS (x5930 : List Store) : Option ((List Store)) :=
  Option.bind (gxMake 16 (x5930.length : Int) ((⟨0, 0⟩ : Store) : Store)) fun mk5940 =>
  Option.bind (whileM (σ := Int × List Store) (ρ := List Store) (fun s5972 =>
    bif decide (s5972.1 < (x5930.length : Int)) then (Option.bind (gxIdx x5930 s5972.1) fun y5988 =>
    Option.bind (M.l_toStore y5988) fun r5989 =>
    Option.bind (gxIdx s5972.2 s5972.1) fun y5993 =>
    some (.inl (w64 (s5972.1 + 1), (s5972.2.set s5972.1.toNat r5989))))
    else some (.inr s5972.2)) gxFuel (0, mk5940)) fun out5979 =>
  some out5979
def M.l_toStoreSS (x5899 : List (List Store)) : Option ((List (List Store))) :=
  Option.bind (gxMake 24 (x5899.length : Int) ([] : List Store)) fun mk5911 =>
  Option.bind (whileM (σ := Int × List (List Store)) (ρ := List (List Store)) (fun s6076 =>
    bif decide (s6076.1 < (x5899.length : Int)) then (Option.bind (gxIdx x5899 s6076.1) fun y6094 =>
    Option.bind (M.l_toStoreS y6094) fun r6102 =>
    Option.bind (gxIdx s6076.2 s6076.1) fun y6111 =>
    some (.inl (w64 (s6076.1 + 1), (s6076.2.set s6076.1.toNat r6102))))
    else some (.inr s6076.2)) gxFuel (0, mk5911)) fun out6083 =>
  some out6083
def M.s_l19Stores (x6176 : Copying) (x6189 : List (List Store)) : Option (Bool) :=
  Option.bind (whileM (σ := Int) (ρ := (Unit) ⊕ (Bool)) (fun s6374 =>
    bif decide (s6374 < (x6189.length : Int)) then (Option.bind (whileM (σ := Int) (ρ := (Unit) ⊕ (Bool)) (fun s6428 =>
      Option.bind (gxIdx x6189 s6374) fun y6439 =>
      bif decide (s6428 < (y6439.length : Int)) then (Option.bind (gxIdx x6189 s6374) fun y6448 =>
      Option.bind (gxIdx y6448 s6428) fun y6452 =>
      Option.bind (M.s_l19Store x6176 y6452) fun r6453 =>
      bif !r6453 then some (.inr (.inr false))
      else some (.inl (w64 (s6428 + 1))))
      else some (.inr (.inl ()))) gxFuel 0) fun out6435 => Sum.elim (fun (o6438 : Unit) =>
    Option.bind (gxIdx x6189 s6374) fun y6464 =>
    bif decide ((y6464.length : Int) > 12) then some (.inr (.inr false))
    else some (.inl (w64 (s6374 + 1)))) (fun r => some (.inr (.inr r))) out6435)
    else some (.inr (.inl ()))) gxFuel 0) fun out6381 => Sum.elim (fun (o6384 : Unit) =>
  some (decide ((x6189.length : Int) ≤ 8))) (fun r => some r) out6381
def M.s_l19Run (x6523 : Copying) (x6536 : List (List Store)) (x6541 : Int) : Option (Copying × Int) :=
  Option.bind (M.s_l19Own x6523) fun r6565 =>
  Option.bind (whileM (σ := Int × Int × List Int × List Int × List Bool) (ρ := Int × List Int × List Int × List Bool) (fun s7222 =>
    bif decide (s7222.2.1 < (x6536.length : Int)) then (Option.bind (M.s_l19Round (⟨s7222.2.2.1, s7222.2.2.2.1, s7222.2.2.2.2⟩ : Copying) x6541) fun r7264 =>
    Option.bind (whileM (σ := Int × List Int × List Int × List Bool) (ρ := List Int × List Int × List Bool) (fun s7451 =>
      Option.bind (gxIdx x6536 s7222.2.1) fun y7492 =>
      bif decide (s7451.1 < (y7492.length : Int)) then (Option.bind (gxIdx x6536 s7222.2.1) fun y7503 =>
      Option.bind (gxIdx y7503 s7451.1) fun y7507 =>
      Option.bind (M.s_l19Write (⟨s7451.2.1, s7451.2.2.1, s7451.2.2.2⟩ : Copying) y7507) fun r7543 =>
      some (.inl (w64 (s7451.1 + 1), r7543.Memory, r7543.Copy, r7543.Dirty)))
      else some (.inr (s7451.2.1, s7451.2.2.1, s7451.2.2.2))) gxFuel (0, r7264.1.Memory, r7264.1.Copy, r7264.1.Dirty)) fun out7458 =>
    some (.inl (w64 (s7222.1 + r7264.2), w64 (s7222.2.1 + 1), out7458.1, out7458.2.1, out7458.2.2)))
    else some (.inr (s7222.1, s7222.2.2.1, s7222.2.2.2.1, s7222.2.2.2.2))) gxFuel (0, 0, r6565.Memory, r6565.Copy, r6565.Dirty)) fun out7229 =>
  some ((⟨out7229.2.1, out7229.2.2.1, out7229.2.2.2⟩ : Copying), out7229.1)
def M.s_RoundsUntil (x6147 : Copying) (x6160 : List (List Store)) (x6165 : Int) (x6166 : Int) : Option (Int × Bool) :=
  Option.bind (α := Bool) (Option.bind (M.s_l19Good x6147) fun r6490 =>
  bif !r6490 then some true
  else (Option.bind (M.s_l19Stores x6147 x6160) fun r6495 =>
  bif !r6495 then some true
  else (Option.bind (M.s_l1In x6165 0 12) fun r6500 =>
  bif !r6500 then some true
  else some (decide (x6166 < 0))))) fun o6487 =>
  bif o6487 then some (0, false)
  else (Option.bind (whileM (σ := Int) (ρ := (Unit) ⊕ (Int × Bool)) (fun s7749 =>
    bif decide (s7749 ≤ (x6160.length : Int)) then (Option.bind (gxSlice x6160 0 s7749) fun ys7763 =>
    Option.bind (M.s_l19Run x6147 ys7763 x6165) fun r7773 =>
    Option.bind (M.s_l19Dirty r7773.1) fun r7843 =>
    bif decide ((r7843.length : Int) ≤ x6166) then some (.inr (.inr (s7749, true)))
    else some (.inl (w64 (s7749 + 1))))
    else some (.inr (.inl ()))) gxFuel 0) fun out7756 => Sum.elim (fun (o7759 : Unit) =>
  some (0, false)) (fun r => some r) out7756)
def M.i_areRounds_1_1 (x8074 : Store) (x8075 : Copying) : Option (Bool) :=
  Option.bind (M.i_isStore x8075 x8074) fun r8095 =>
  some (!r8095)
def M.slices_IndexFunc_107__i_areRounds_1_1 (x8051 : List Store) (x8056 : Copying) : Option (Int) :=
  Option.bind (whileM (σ := Int) (ρ := (Unit) ⊕ (Int)) (fun s8111 =>
    bif decide (s8111 < (x8051.length : Int)) then (Option.bind (gxIdx x8051 s8111) fun y8123 =>
    Option.bind (M.i_areRounds_1_1 y8123 x8056) fun r8124 =>
    bif r8124 then some (.inr (.inr s8111))
    else some (.inl (w64 (s8111 + 1))))
    else some (.inr (.inl ()))) gxFuel 0) fun out8118 => Sum.elim (fun (o8121 : Unit) =>
  some (-1)) (fun r => some r) out8118
def M.slices_ContainsFunc_99__i_areRounds_1_1 (x8030 : List Store) (x8035 : Copying) : Option (Bool) :=
  Option.bind (M.slices_IndexFunc_107__i_areRounds_1_1 x8030 x8035) fun r8133 =>
  some (decide (r8133 ≥ 0))
def M.i_areRounds_1 (x8008 : List Store) (x8013 : Copying) : Option (Bool) :=
  Option.bind (α := Bool) (bif decide ((x8008.length : Int) > 12) then some true
  else (Option.bind (M.slices_ContainsFunc_99__i_areRounds_1_1 x8008 x8013) fun r8145 =>
  some r8145)) fun o8141 =>
  some o8141
def M.slices_IndexFunc_106__i_areRounds_1 (x7978 : List (List Store)) (x7983 : Copying) : Option (Int) :=
  Option.bind (whileM (σ := Int) (ρ := (Unit) ⊕ (Int)) (fun s8172 =>
    bif decide (s8172 < (x7978.length : Int)) then (Option.bind (gxIdx x7978 s8172) fun y8184 =>
    Option.bind (M.i_areRounds_1 y8184 x7983) fun r8192 =>
    bif r8192 then some (.inr (.inr s8172))
    else some (.inl (w64 (s8172 + 1))))
    else some (.inr (.inl ()))) gxFuel 0) fun out8179 => Sum.elim (fun (o8182 : Unit) =>
  some (-1)) (fun r => some r) out8179
def M.slices_ContainsFunc_97__i_areRounds_1 (x7957 : List (List Store)) (x7962 : Copying) : Option (Bool) :=
  Option.bind (M.slices_IndexFunc_106__i_areRounds_1 x7957 x7962) fun r8201 =>
  some (decide (r8201 ≥ 0))
def M.i_areRounds (x7923 : Copying) (x7936 : List (List Store)) (x7941 : Int) : Option (Bool) :=
  Option.bind (α := Bool) (Option.bind (M.i_IsCopying x7923) fun r8212 =>
  bif r8212 then (bif decide ((x7936.length : Int) ≤ 8) then (Option.bind (M.i_inside x7941 0 12) fun r8218 =>
  bif r8218 then (Option.bind (M.slices_ContainsFunc_97__i_areRounds_1 x7936 x7923) fun r8223 =>
  some (!r8223))
  else some false)
  else some false)
  else some false) fun o8209 =>
  some o8209
def M.i_Copying_roundWith (x8296 : Copying) (x8314 : List Store) (x8320 : Int) : Option (Int × (List Int) × (List Int) × (List Bool)) :=
  Option.bind (M.i_Copying_round x8296 x8320) fun r8330 =>
  Option.bind (whileM (σ := Int × List Int × List Int × List Bool) (ρ := List Int × List Int × List Bool) (fun s8418 =>
    bif decide (s8418.1 < (x8314.length : Int)) then (Option.bind (gxIdx x8314 s8418.1) fun y8460 =>
    Option.bind (M.i_Copying_store (⟨s8418.2.1, s8418.2.2.1, s8418.2.2.2⟩ : Copying) y8460) fun r8467 =>
    some (.inl (w64 (s8418.1 + 1), r8467.1, r8467.2.1, r8467.2.2)))
    else some (.inr (s8418.2.1, s8418.2.2.1, s8418.2.2.2))) gxFuel (0, r8330.2.1, r8330.2.2.1, r8330.2.2.2)) fun out8425 =>
  some (r8330.1, out8425.1, out8425.2.1, out8425.2.2)
def M.i_RoundsUntil (x7899 : Copying) (x7912 : List (List Store)) (x7917 : Int) (x7918 : Int) : Option (Int × Bool) :=
  Option.bind (α := Bool) (Option.bind (M.i_areRounds x7899 x7912 x7917) fun r8239 =>
  bif !r8239 then some true
  else some (decide (x7918 < 0))) fun o8236 =>
  bif o8236 then some (0, false)
  else (Option.bind (M.i_newCopying x7899) fun r8249 =>
  Option.bind (whileM (σ := Int × List Int × List Int × List Bool) (ρ := Int × Bool) (fun s8562 =>
    Option.bind (M.i_dirtyWords (⟨s8562.2.1, s8562.2.2.1, s8562.2.2.2⟩ : Copying)) fun r8587 =>
    bif decide ((r8587.length : Int) ≤ x7918) then some (.inr (s8562.1, true))
    else (bif s8562.1 == (x7912.length : Int) then some (.inr (0, false))
    else (Option.bind (gxIdx x7912 s8562.1) fun y8598 =>
    Option.bind (M.i_Copying_roundWith (⟨s8562.2.1, s8562.2.2.1, s8562.2.2.2⟩ : Copying) y8598 x7917) fun r8606 =>
    some (.inl (w64 (s8562.1 + 1), r8606.2.1, r8606.2.2.1, r8606.2.2.2))))) gxFuel (0, r8249.Memory, r8249.Copy, r8249.Dirty)) fun out8569 => some out8569)
def M.l_eqStore (x8734 : Store) (x8735 : Store) : Option (Bool) :=
  bif x8734.Word != x8735.Word then some false
  else (bif x8734.Value != x8735.Value then some false
  else some true)
def M.l_eqStoreS (x8720 : List Store) (x8725 : List Store) : Option (Bool) :=
  bif (x8720.length : Int) != (x8725.length : Int) then some false
  else (Option.bind (whileM (σ := Int) (ρ := (Unit) ⊕ (Bool)) (fun s8763 =>
    bif decide (s8763 < (x8720.length : Int)) then (Option.bind (gxIdx x8720 s8763) fun y8775 =>
    Option.bind (gxIdx x8725 s8763) fun y8776 =>
    Option.bind (M.l_eqStore y8775 y8776) fun r8777 =>
    bif !r8777 then some (.inr (.inr false))
    else some (.inl (w64 (s8763 + 1))))
    else some (.inr (.inl ()))) gxFuel 0) fun out8770 => Sum.elim (fun (o8773 : Unit) =>
  some true) (fun r => some r) out8770)
def M.l_eqStoreSS (x8692 : List (List Store)) (x8697 : List (List Store)) : Option (Bool) :=
  bif (x8692.length : Int) != (x8697.length : Int) then some false
  else (Option.bind (whileM (σ := Int) (ρ := (Unit) ⊕ (Bool)) (fun s8819 =>
    bif decide (s8819 < (x8692.length : Int)) then (Option.bind (gxIdx x8692 s8819) fun y8831 =>
    Option.bind (gxIdx x8697 s8819) fun y8839 =>
    Option.bind (M.l_eqStoreS y8831 y8839) fun r8847 =>
    bif !r8847 then some (.inr (.inr false))
    else some (.inl (w64 (s8819 + 1))))
    else some (.inr (.inl ()))) gxFuel 0) fun out8826 => Sum.elim (fun (o8829 : Unit) =>
  some true) (fun r => some r) out8826)
def M.l_FnExactRoundsUntil (x5775 : Copying) (x5788 : List (List Store)) (x5793 : Int) (x5794 : Int) : Option (Bool) :=
  Option.bind (M.l_szCopying x5775 1048576) fun r5799 =>
  bif decide (r5799 < 0) then some true
  else (Option.bind (M.l_szStoreSS x5788 r5799) fun r5875 =>
  bif decide (r5875 < 0) then some true
  else (Option.bind (M.l_toCopying x5775) fun r5880 =>
  Option.bind (M.l_toStoreSS x5788) fun r6137 =>
  Option.bind (M.s_RoundsUntil r5880 r6137 x5793 x5794) fun r7857 =>
  Option.bind (M.l_toCopying x5775) fun r7861 =>
  Option.bind (M.l_toStoreSS x5788) fun r7889 =>
  Option.bind (M.i_RoundsUntil r7861 r7889 x5793 x5794) fun r8629 =>
  Option.bind (α := Bool) (bif r8629.1 != r7857.1 then some true
  else some (!(r8629.2 == r7857.2))) fun o8634 =>
  bif o8634 then some false
  else (Option.bind (M.l_toCopying x5775) fun r8645 =>
  Option.bind (M.l_eqCopying r7861 r8645) fun r8677 =>
  bif !r8677 then some false
  else (Option.bind (M.l_toStoreSS x5788) fun r8682 =>
  Option.bind (M.l_eqStoreSS r7889 r8682) fun r8858 =>
  bif !r8858 then some false
  else some true))))
def M.s_RunRounds (x8925 : Copying) (x8938 : List (List Store)) (x8943 : Int) : Option (Copying × Int × Bool) :=
  Option.bind (α := Bool) (Option.bind (M.s_l19Good x8925) fun r8984 =>
  bif !r8984 then some true
  else (Option.bind (M.s_l19Stores x8925 x8938) fun r8989 =>
  bif !r8989 then some true
  else (Option.bind (M.s_l1In x8943 0 12) fun r8994 =>
  some (!r8994)))) fun o8981 =>
  bif o8981 then some ((⟨([] : List Int), ([] : List Int), ([] : List Bool)⟩ : Copying), 0, false)
  else (Option.bind (M.s_l19Run x8925 x8938 x8943) fun r9008 =>
  some (r9008.1, r9008.2, true))
def M.i_RunRounds (x9104 : Copying) (x9117 : List (List Store)) (x9122 : Int) : Option (Copying × Int × Bool) :=
  Option.bind (M.i_areRounds x9104 x9117 x9122) fun r9146 =>
  bif !r9146 then some ((⟨([] : List Int), ([] : List Int), ([] : List Bool)⟩ : Copying), 0, false)
  else (Option.bind (M.i_newCopying x9104) fun r9156 =>
  Option.bind (whileM (σ := Int × Int × List Int × List Int × List Bool) (ρ := Int × List Int × List Int × List Bool) (fun s9255 =>
    bif decide (s9255.2.1 < (x9117.length : Int)) then (Option.bind (gxIdx x9117 s9255.2.1) fun y9297 =>
    Option.bind (M.i_Copying_roundWith (⟨s9255.2.2.1, s9255.2.2.2.1, s9255.2.2.2.2⟩ : Copying) y9297 x9122) fun r9305 =>
    some (.inl (w64 (s9255.1 + r9305.1), w64 (s9255.2.1 + 1), r9305.2.1, r9305.2.2.1, r9305.2.2.2)))
    else some (.inr (s9255.1, s9255.2.2.1, s9255.2.2.2.1, s9255.2.2.2.2))) gxFuel (0, 0, r9156.Memory, r9156.Copy, r9156.Dirty)) fun out9262 =>
  some ((⟨out9262.2.1, out9262.2.2.1, out9262.2.2.2⟩ : Copying), out9262.1, true))
def M.l_markStoreS (x9465 : List Store) (x9471 : Int) : Option (Int × (List Store)) :=
  Option.bind (whileM (σ := Int × Int × List Store) (ρ := Int × List Store) (fun s9498 =>
    bif decide (s9498.2.1 < (s9498.2.2.length : Int)) then (Option.bind (gxIdx s9498.2.2 s9498.2.1) fun y9516 =>
    Option.bind (gxIdx (s9498.2.2.set s9498.2.1.toNat (⟨s9498.1, y9516.Value⟩ : Store)) s9498.2.1) fun y9521 =>
    some (.inl (w64 ((w64 (s9498.1 + 1)) + 1), w64 (s9498.2.1 + 1), ((s9498.2.2.set s9498.2.1.toNat (⟨s9498.1, y9516.Value⟩ : Store)).set s9498.2.1.toNat (⟨y9521.Word, w64 (s9498.1 + 1)⟩ : Store)))))
    else some (.inr (s9498.1, s9498.2.2))) gxFuel (x9471, 0, x9465)) fun out9505 =>
  some (out9505.1, out9505.2)
def M.l_markStoreSS (x9446 : List (List Store)) (x9453 : Int) : Option (Int × (List (List Store))) :=
  Option.bind (whileM (σ := Int × Int × List (List Store)) (ρ := Int × List (List Store)) (fun s9593 =>
    bif decide (s9593.2.1 < (s9593.2.2.length : Int)) then (Option.bind (gxIdx s9593.2.2 s9593.2.1) fun y9613 =>
    Option.bind (M.l_markStoreS y9613 s9593.1) fun r9621 =>
    some (.inl (r9621.1, w64 (s9593.2.1 + 1), (s9593.2.2.set s9593.2.1.toNat r9621.2))))
    else some (.inr (s9593.1, s9593.2.2))) gxFuel (x9453, 0, x9446)) fun out9600 =>
  some (out9600.1, out9600.2)
def M.l_FnExactRunRounds (x8863 : Copying) (x8876 : List (List Store)) (x8881 : Int) : Option (Bool) :=
  Option.bind (M.l_szCopying x8863 1048576) fun r8886 =>
  bif decide (r8886 < 0) then some true
  else (Option.bind (M.l_szStoreSS x8876 r8886) fun r8891 =>
  bif decide (r8891 < 0) then some true
  else (Option.bind (M.l_toCopying x8863) fun r8896 =>
  Option.bind (M.l_toStoreSS x8876) fun r8915 =>
  Option.bind (M.s_RunRounds r8896 r8915 x8881) fun r9038 =>
  Option.bind (M.l_toCopying x8863) fun r9066 =>
  Option.bind (M.l_toStoreSS x8876) fun r9094 =>
  Option.bind (M.i_RunRounds r9066 r9094 x8881) fun r9330 =>
  Option.bind (α := Bool) (Option.bind (M.l_eqCopying r9330.1 r9038.1) fun r9367 =>
  bif !r9367 then some true
  else (bif r9330.2.1 != r9038.2.1 then some true
  else some (!(r9330.2.2 == r9038.2.2)))) fun o9364 =>
  bif o9364 then some false
  else (Option.bind (M.l_toCopying x8863) fun r9380 =>
  Option.bind (M.l_eqCopying r9066 r9380) fun r9412 =>
  bif !r9412 then some false
  else (Option.bind (M.l_toStoreSS x8876) fun r9417 =>
  Option.bind (M.l_eqStoreSS r9094 r9417) fun r9427 =>
  bif !r9427 then some false
  else (Option.bind (M.l_markCopying r9066 1) fun r9432 =>
  Option.bind (M.l_markStoreSS r9094 r9432.1) fun r9650 =>
  Option.bind (α := Bool) (bif decide (r9650.1 < 0) then some true
  else (Option.bind (M.l_eqCopying r9330.1 r9038.1) fun r9669 =>
  bif !r9669 then some true
  else (bif r9330.2.1 != r9038.2.1 then some true
  else some (!(r9330.2.2 == r9038.2.2))))) fun o9665 =>
  bif o9665 then some false
  else (Option.bind (M.l_markCopying r9330.1 1) fun r9680 =>
  Option.bind (M.l_heldCopying (⟨r9680.2.1, r9680.2.2.1, r9680.2.2.2⟩ : Copying) 1) fun r9694 =>
  bif decide (r9694 < 0) then some false
  else (bif r9694 != r9680.1 then some false
  else (Option.bind (M.l_toCopying x8863) fun r9700 =>
  Option.bind (M.l_toStoreSS x8876) fun r9719 =>
  Option.bind (M.i_RunRounds r9700 r9719 x8881) fun r9729 =>
  Option.bind (α := Bool) (Option.bind (M.l_eqCopying r9729.1 r9038.1) fun r9766 =>
  bif !r9766 then some true
  else (bif r9729.2.1 != r9038.2.1 then some true
  else some (!(r9729.2.2 == r9038.2.2)))) fun o9763 =>
  bif o9763 then some false
  else (Option.bind (M.l_heldCopying (⟨r9680.2.1, r9680.2.2.1, r9680.2.2.2⟩ : Copying) 1) fun r9777 =>
  bif decide (r9777 < 0) then some false
  else (bif r9777 != r9680.1 then some false
  else some true))))))))))
def M.l_vBig (x9788 : List Int) : Option (Bool) :=
  some (decide ((x9788.length : Int) > 65536))
def M.s_l1Cur_next (x9890 : l1Cur) : Option (Int × Int × Int) :=
  Option.bind (α := Int) (bif decide (x9890.at_ < (x9890.code.length : Int)) then (Option.bind (gxIdx x9890.code x9890.at_) fun y9908 =>
  some (w64 y9908))
  else some 0) fun o9904 =>
  bif decide ((w64 (x9890.at_ + 1)) ≤ (x9890.code.length : Int)) then some (o9904, w64 (x9890.at_ + 1), IntKind.u64.wrap ((IntKind.u64.wrap ((IntKind.u64.wrap (x9890.seed * 6364136223846793005)) + (IntKind.u64.wrap o9904))) + 843843))
  else some (w64 (gxAnd .u64 ((IntKind.u64.wrap ((IntKind.u64.wrap ((IntKind.u64.wrap (x9890.seed * 6364136223846793005)) + (IntKind.u64.wrap o9904))) + 843843)).fdiv (2 ^ 40)) 255), w64 (x9890.at_ + 1), IntKind.u64.wrap ((IntKind.u64.wrap ((IntKind.u64.wrap (x9890.seed * 6364136223846793005)) + (IntKind.u64.wrap o9904))) + 843843))
def M.s_l1Cur_pick (x9880 : l1Cur) (x9888 : Int) : Option (Int × Int × Int) :=
  bif decide (x9888 ≤ 1) then some (0, x9880.at_, x9880.seed)
  else (Option.bind (M.s_l1Cur_next x9880) fun r9922 =>
  Option.bind (α := Int × Int × Int) (bif decide (x9888 > 200) then (Option.bind (M.s_l1Cur_next (⟨x9880.code, r9922.2.1, r9922.2.2⟩ : l1Cur)) fun r9935 =>
  some (w64 ((w64 (r9922.1 * 256)) + r9935.1), r9935.2.1, r9935.2.2))
  else some (r9922.1, r9922.2.1, r9922.2.2)) fun o9931 =>
  Option.bind (gxRem o9931.1 x9888) fun q9943 =>
  some (q9943, o9931.2.1, o9931.2.2))
def M.s_l1Cur_among (x9956 : l1Cur) (x9964 : List Int) : Option (Int × Int × Int) :=
  Option.bind (M.s_l1Cur_pick x9956 (x9964.length : Int)) fun r9970 =>
  Option.bind (gxIdx x9964 r9970.1) fun y9974 =>
  some (y9974, r9970.2.1, r9970.2.2)
def M.s_l1Cur_memory (x9860 : l1Cur) : Option ((List Int) × Int × Int) :=
  Option.bind (M.s_l1Cur_pick x9860 8) fun r9944 =>
  Option.bind (whileM (σ := List Int × Int × Int × Int) (ρ := List Int × Int × Int) (fun s10026 =>
    bif decide (s10026.2.1 > 0) then (Option.bind (M.s_l1Cur_among (⟨x9860.code, s10026.2.2.1, s10026.2.2.2⟩ : l1Cur) [0, 0, 1, 2, 255, 4096, 65535]) fun r10055 =>
    Option.bind (gxApp 8 s10026.1 [r10055.1]) fun ap10066 =>
    some (.inl (ap10066, w64 (s10026.2.1 - 1), r10055.2.1, r10055.2.2)))
    else some (.inr (s10026.1, s10026.2.2.1, s10026.2.2.2))) gxFuel (([] : List Int), w64 (1 + r9944.1), r9944.2.1, r9944.2.2)) fun out10033 =>
  Option.bind (M.s_l1Cur_pick (⟨x9860.code, out10033.2.1, out10033.2.2⟩ : l1Cur) 32) fun r10078 =>
  Option.bind (α := List Int × Int × Int × List Int) (bif r10078.1 == 0 then (Option.bind (M.s_l1Cur_among (⟨x9860.code, r10078.2.1, r10078.2.2⟩ : l1Cur) [(-1), 65536]) fun r10533 =>
  Option.bind (gxIdx out10033.1 0) fun y10537 =>
  some ((out10033.1.set (0 : Int).toNat r10533.1), r10533.2.1, r10533.2.2, (out10033.1.set (0 : Int).toNat r10533.1)))
  else (Option.bind (α := List Int × Int × Int) (bif r10078.1 == 1 then some (([] : List Int), r10078.2.1, r10078.2.2)
  else (Option.bind (α := List Int × Int × Int) (bif r10078.1 == 2 then (Option.bind (whileM (σ := List Int × Int × Int) (ρ := List Int × Int × Int) (fun s10905 =>
    Option.bind (M.s_l1Cur_pick (⟨x9860.code, s10905.2.1, s10905.2.2⟩ : l1Cur) 2) fun r10926 =>
    bif decide ((s10905.1.length : Int) < (w64 (12 + r10926.1))) then (Option.bind (gxApp 8 s10905.1 [7]) fun ap10938 =>
    some (.inl (ap10938, r10926.2.1, r10926.2.2)))
    else some (.inr (s10905.1, r10926.2.1, r10926.2.2))) gxFuel (out10033.1, r10078.2.1, r10078.2.2)) fun out10912 =>
  some (out10912.1, out10912.2.1, out10912.2.2))
  else some (out10033.1, r10078.2.1, r10078.2.2)) fun o10851 =>
  some (o10851.1, o10851.2.1, o10851.2.2))) fun o10744 =>
  some (o10744.1, o10744.2.1, o10744.2.2, out10033.1))) fun o10515 =>
  some (o10515.1, o10515.2.1, o10515.2.2.1)
def M.s_l1Cur_one (x11013 : l1Cur) (x11021 : Int) : Option (Bool × Int × Int) :=
  Option.bind (M.s_l1Cur_pick x11013 x11021) fun r11022 =>
  some (r11022.1 == 0, r11022.2.1, r11022.2.2)
def M.s_l1Most (x11130 : Int) (x11131 : Int) : Option (Int) :=
  bif decide (x11130 > x11131) then some x11130
  else some x11131
def M.s_l1Cur_storeIn (x11088 : l1Cur) (x11096 : Int) : Option (Store × Int × Int) :=
  Option.bind (M.s_l1Cur_one x11088 32) fun r11101 =>
  bif r11101.1 then (Option.bind (M.s_l1Cur_among (⟨x11088.code, r11101.2.1, r11101.2.2⟩ : l1Cur) [(-1), x11096, 0]) fun r11113 =>
  Option.bind (M.s_l1Cur_among (⟨x11088.code, r11113.2.1, r11113.2.2⟩ : l1Cur) [(-1), 65536]) fun r11124 =>
  some ((⟨r11113.1, r11124.1⟩ : Store), r11124.2.1, r11124.2.2))
  else (Option.bind (M.s_l1Most 1 x11096) fun r11133 =>
  Option.bind (M.s_l1Cur_pick (⟨x11088.code, r11101.2.1, r11101.2.2⟩ : l1Cur) r11133) fun r11137 =>
  Option.bind (M.s_l1Cur_among (⟨x11088.code, r11137.2.1, r11137.2.2⟩ : l1Cur) [0, 1, 5, 300, 65535]) fun r11148 =>
  some ((⟨r11137.1, r11148.1⟩ : Store), r11148.2.1, r11148.2.2))
def M.s_l1Cur_copying (x9833 : l1Cur) : Option (Copying × Int × Int) :=
  Option.bind (M.s_l1Cur_memory x9833) fun r10962 =>
  Option.bind (M.s_StartCopy r10962.1) fun r10971 =>
  Option.bind (M.s_l1Cur_pick (⟨x9833.code, r10962.2.1, r10962.2.2⟩ : l1Cur) 6) fun r10999 =>
  Option.bind (whileM (σ := Int × Int × Int × List Int × List Int × List Bool) (ρ := Int × Int × List Int × List Int × List Bool) (fun s11721 =>
    Option.bind (α := Bool) (bif decide (s11721.1 > 0) then some (decide ((s11721.2.2.2.1.length : Int) > 0))
    else some false) fun o11763 =>
    bif o11763 then (Option.bind (M.s_l1Cur_one (⟨x9833.code, s11721.2.1, s11721.2.2.1⟩ : l1Cur) 2) fun r11772 =>
    Option.bind (α := Int × Int × List Int × List Int × List Bool) (bif r11772.1 then (Option.bind (M.s_l1Cur_pick (⟨x9833.code, r11772.2.1, r11772.2.2⟩ : l1Cur) 6) fun r11935 =>
    Option.bind (M.s_l19Round (⟨s11721.2.2.2.1, s11721.2.2.2.2.1, s11721.2.2.2.2.2⟩ : Copying) r11935.1) fun r11936 =>
    some (r11935.2.1, r11935.2.2, r11936.1.Memory, r11936.1.Copy, r11936.1.Dirty))
    else (Option.bind (M.s_l1Cur_storeIn (⟨x9833.code, r11772.2.1, r11772.2.2⟩ : l1Cur) (s11721.2.2.2.1.length : Int)) fun r11990 =>
    Option.bind (M.s_l19Store (⟨s11721.2.2.2.1, s11721.2.2.2.2.1, s11721.2.2.2.2.2⟩ : Copying) r11990.1) fun r12000 =>
    Option.bind (α := List Int × List Int × List Bool) (bif r12000 then (Option.bind (M.s_l19Write (⟨s11721.2.2.2.1, s11721.2.2.2.2.1, s11721.2.2.2.2.2⟩ : Copying) r11990.1) fun r12045 =>
    some (r12045.Memory, r12045.Copy, r12045.Dirty))
    else some (s11721.2.2.2.1, s11721.2.2.2.2.1, s11721.2.2.2.2.2)) fun o12026 =>
    some (r11990.2.1, r11990.2.2, o12026.1, o12026.2.1, o12026.2.2))) fun o11914 =>
    some (.inl (w64 (s11721.1 - 1), o11914.1, o11914.2.1, o11914.2.2.1, o11914.2.2.2.1, o11914.2.2.2.2)))
    else some (.inr (s11721.2.1, s11721.2.2.1, s11721.2.2.2.1, s11721.2.2.2.2.1, s11721.2.2.2.2.2))) gxFuel (r10999.1, r10999.2.1, r10999.2.2, r10971.1.Memory, r10971.1.Copy, r10971.1.Dirty)) fun out11728 =>
  Option.bind (M.s_l1Cur_pick (⟨x9833.code, out11728.1, out11728.2.1⟩ : l1Cur) 24) fun r12078 =>
  Option.bind (α := Int × Int × List Bool × List Int) (bif r12078.1 == 0 then (Option.bind (gxApp 1 out11728.2.2.2.2 [true]) fun ap12433 =>
  some (r12078.2.1, r12078.2.2, ap12433, out11728.2.2.2.1))
  else (Option.bind (α := Int × Int × List Int × List Bool) (bif r12078.1 == 1 then (Option.bind (α := Int × Int × List Int × List Bool) (bif decide ((out11728.2.2.2.1.length : Int) > 0) then (Option.bind (M.s_l1Cur_among (⟨x9833.code, r12078.2.1, r12078.2.2⟩ : l1Cur) [(-1), 9]) fun r12688 =>
  Option.bind (gxIdx out11728.2.2.2.1 0) fun y12714 =>
  Option.bind (M.s_l1Cur_one (⟨x9833.code, r12688.2.1, r12688.2.2⟩ : l1Cur) 2) fun r12722 =>
  Option.bind (gxIdx out11728.2.2.2.2 0) fun y12744 =>
  some (r12722.2.1, r12722.2.2, (out11728.2.2.2.1.set (0 : Int).toNat r12688.1), (out11728.2.2.2.2.set (0 : Int).toNat r12722.1)))
  else some (r12078.2.1, r12078.2.2, out11728.2.2.2.1, out11728.2.2.2.2)) fun o12673 =>
  some (o12673.1, o12673.2.1, o12673.2.2.1, o12673.2.2.2))
  else some (r12078.2.1, r12078.2.2, out11728.2.2.2.1, out11728.2.2.2.2)) fun o12595 =>
  some (o12595.1, o12595.2.1, o12595.2.2.2, o12595.2.2.1))) fun o12415 =>
  some ((⟨out11728.2.2.1, o12415.2.2.2, o12415.2.2.1⟩ : Copying), o12415.1, o12415.2.1)
def M.s_l1Cur_storeLists (x12794 : l1Cur) (x12802 : Int) : Option ((List (List Store)) × Int × Int) :=
  Option.bind (M.s_l1Cur_pick x12794 6) fun r12818 =>
  Option.bind (whileM (σ := List (List Store) × Int × Int × Int) (ρ := List (List Store) × Int × Int) (fun s13082 =>
    bif decide (s13082.2.1 > 0) then (Option.bind (M.s_l1Cur_pick (⟨x12794.code, s13082.2.2.1, s13082.2.2.2⟩ : l1Cur) 4) fun r13113 =>
    Option.bind (whileM (σ := List Store × Int × Int × Int) (ρ := List Store × Int × Int) (fun s13162 =>
      bif decide (s13162.2.1 > 0) then (Option.bind (M.s_l1Cur_storeIn (⟨x12794.code, s13162.2.2.1, s13162.2.2.2⟩ : l1Cur) x12802) fun r13184 =>
      Option.bind (gxApp 16 s13162.1 [r13184.1]) fun ap13195 =>
      some (.inl (ap13195, w64 (s13162.2.1 - 1), r13184.2.1, r13184.2.2)))
      else some (.inr (s13162.1, s13162.2.2.1, s13162.2.2.2))) gxFuel (([] : List Store), r13113.1, r13113.2.1, r13113.2.2)) fun out13169 =>
    Option.bind (gxApp 24 s13082.1 [out13169.1]) fun ap13217 =>
    some (.inl (ap13217, w64 (s13082.2.1 - 1), out13169.2.1, out13169.2.2)))
    else some (.inr (s13082.1, s13082.2.2.1, s13082.2.2.2))) gxFuel (([] : List (List Store)), r12818.1, r12818.2.1, r12818.2.2)) fun out13089 =>
  Option.bind (M.s_l1Cur_one (⟨x12794.code, out13089.2.1, out13089.2.2⟩ : l1Cur) 32) fun r13236 =>
  Option.bind (α := List (List Store) × Int × Int) (bif r13236.1 then (Option.bind (whileM (σ := List (List Store) × Int × Int) (ρ := List (List Store) × Int × Int) (fun s13475 =>
    Option.bind (M.s_l1Cur_pick (⟨x12794.code, s13475.2.1, s13475.2.2⟩ : l1Cur) 2) fun r13498 =>
    bif decide ((s13475.1.length : Int) < (w64 (8 + r13498.1))) then (Option.bind (gxApp 24 s13475.1 [([] : List Store)]) fun ap13520 =>
    some (.inl (ap13520, r13498.2.1, r13498.2.2)))
    else some (.inr (s13475.1, r13498.2.1, r13498.2.2))) gxFuel (out13089.1, r13236.2.1, r13236.2.2)) fun out13482 =>
  some (out13482.1, out13482.2.1, out13482.2.2))
  else some (out13089.1, r13236.2.1, r13236.2.2)) fun o13385 =>
  some (o13385.1, o13385.2.1, o13385.2.2)
def M.s_DrawCopyRound (x13565 : List Int) : Option (Copying × Int) :=
  Option.bind (M.s_l1Cur_copying (⟨x13565, 0, 0⟩ : l1Cur)) fun r13594 =>
  Option.bind (M.s_l1Cur_among (⟨x13565, r13594.2.1, r13594.2.2⟩ : l1Cur) [0, 1, 2, 3, 12, 13, (-1), 4]) fun r13620 =>
  some (r13594.1, r13620.1)
def M.l_vInts (x13746 : List Int) (x13751 : List Int) : Option (Bool) :=
  bif (x13746.length : Int) != (x13751.length : Int) then some false
  else (Option.bind (whileM (σ := Int) (ρ := (Unit) ⊕ (Bool)) (fun s13769 =>
    bif decide (s13769 < (x13746.length : Int)) then (Option.bind (gxIdx x13746 s13769) fun y13781 =>
    Option.bind (gxIdx x13751 s13769) fun y13782 =>
    bif y13781 != y13782 then some (.inr (.inr false))
    else some (.inl (w64 (s13769 + 1))))
    else some (.inr (.inl ()))) gxFuel 0) fun out13776 => Sum.elim (fun (o13779 : Unit) =>
  some true) (fun r => some r) out13776)
def M.l_vBools (x13800 : List Bool) (x13805 : List Bool) : Option (Bool) :=
  bif (x13800.length : Int) != (x13805.length : Int) then some false
  else (Option.bind (whileM (σ := Int) (ρ := (Unit) ⊕ (Bool)) (fun s13823 =>
    bif decide (s13823 < (x13800.length : Int)) then (Option.bind (gxIdx x13800 s13823) fun y13835 =>
    Option.bind (gxIdx x13805 s13823) fun y13836 =>
    bif !(y13835 == y13836) then some (.inr (.inr false))
    else some (.inl (w64 (s13823 + 1))))
    else some (.inr (.inl ()))) gxFuel 0) fun out13830 => Sum.elim (fun (o13833 : Unit) =>
  some true) (fun r => some r) out13830)
def M.l_vCopying (x13712 : Copying) (x13725 : Copying) : Option (Bool) :=
  Option.bind (α := Bool) (Option.bind (M.l_vInts x13712.Memory x13725.Memory) fun r13851 =>
  bif r13851 then (Option.bind (M.l_vInts x13712.Copy x13725.Copy) fun r13856 =>
  bif r13856 then (Option.bind (M.l_vBools x13712.Dirty x13725.Dirty) fun r13861 =>
  some r13861)
  else some false)
  else some false) fun o13848 =>
  some o13848
def M.s_DrawStoreWord (x13942 : List Int) : Option (Copying × Store) :=
  Option.bind (M.s_l1Cur_copying (⟨x13942, 0, 0⟩ : l1Cur)) fun r13975 =>
  Option.bind (M.s_l1Cur_storeIn (⟨x13942, r13975.2.1, r13975.2.2⟩ : l1Cur) (r13975.1.Memory.length : Int)) fun r14005 =>
  some (r13975.1, r14005.1)
def M.l_vHas (x14160 : List Int) (x14165 : Int) : Option (Bool) :=
  Option.bind (whileM (σ := Int) (ρ := (Unit) ⊕ (Bool)) (fun s14172 =>
    bif decide (s14172 < (x14160.length : Int)) then (Option.bind (gxIdx x14160 s14172) fun y14184 =>
    bif y14184 == x14165 then some (.inr (.inr true))
    else some (.inl (w64 (s14172 + 1))))
    else some (.inr (.inl ()))) gxFuel 0) fun out14179 => Sum.elim (fun (o14182 : Unit) =>
  some false) (fun r => some r) out14179
def M.s_DrawStartCopy (x14235 : List Int) : Option ((List Int)) :=
  Option.bind (M.s_l1Cur_memory (⟨x14235, 0, 0⟩ : l1Cur)) fun r14250 =>
  some r14250.1
def M.s_DrawIsCopying (x14366 : List Int) : Option (Copying) :=
  Option.bind (M.s_l1Cur_copying (⟨x14366, 0, 0⟩ : l1Cur)) fun r14395 =>
  some r14395.1
def M.s_DrawDirtyWords (x14342 : List Int) : Option (Copying) :=
  Option.bind (M.s_DrawIsCopying x14342) fun r14416 =>
  some r14416
def M.l_FnRounds (x13555 : List Int) : Option (Bool) :=
  Option.bind (M.l_vBig x13555) fun r13560 =>
  bif r13560 then some true
  else (Option.bind (M.s_DrawCopyRound x13555) fun r13626 =>
  Option.bind (M.i_CopyRound r13626.1 r13626.2) fun r13654 =>
  Option.bind (M.s_CopyRound r13626.1 r13626.2) fun r13682 =>
  Option.bind (α := Bool) (bif !(r13654.2.2 == r13682.2.2) then some true
  else (bif r13654.2.1 != r13682.2.1 then some true
  else (Option.bind (M.l_vCopying r13654.1 r13682.1) fun r13878 =>
  some (!r13878)))) fun o13873 =>
  bif o13873 then some false
  else (bif r13654.2.2 then (Option.bind (M.i_DirtyWords r13626.1) fun r13888 =>
  Option.bind (M.i_DirtyWords r13654.1) fun r13897 =>
  Option.bind (α := Bool) (bif !r13888.2 then some true
  else (bif !r13897.2 then some true
  else (bif (r13897.1.length : Int) != (w64 ((r13888.1.length : Int) - r13654.2.1)) then some true
  else (bif decide (r13654.2.1 > r13626.2) then some true
  else (bif decide (r13654.2.1 < r13626.2) then (bif (r13897.1.length : Int) != 0 then some true
  else (Option.bind (M.l_vInts r13654.1.Memory r13626.1.Memory) fun r13929 =>
  some (!r13929)))
  else (Option.bind (M.l_vInts r13654.1.Memory r13626.1.Memory) fun r13933 =>
  some (!r13933))))))) fun o13920 =>
  bif o13920 then some false
  else (Option.bind (M.s_DrawStoreWord x13555) fun r14039 =>
  Option.bind (M.i_StoreWord r14039.1 r14039.2) fun r14073 =>
  Option.bind (M.s_StoreWord r14039.1 r14039.2) fun r14101 =>
  Option.bind (α := Bool) (bif !(r14073.2 == r14101.2) then some true
  else (Option.bind (M.l_vCopying r14073.1 r14101.1) fun r14138 =>
  some (!r14138))) fun o14134 =>
  bif o14134 then some false
  else (bif r14073.2 then (Option.bind (M.i_DirtyWords r14073.1) fun r14148 =>
  Option.bind (α := Bool) (bif !r14148.2 then some true
  else (Option.bind (M.l_vHas r14148.1 r14039.2.Word) fun r14213 =>
  bif !r14213 then some true
  else (Option.bind (gxIdx r14073.1.Memory r14039.2.Word) fun y14220 =>
  bif y14220 != r14039.2.Value then some true
  else (Option.bind (M.l_vInts r14073.1.Copy r14039.1.Copy) fun r14224 =>
  some (!r14224))))) fun o14207 =>
  bif o14207 then some false
  else (Option.bind (M.s_DrawStartCopy x13555) fun r14259 =>
  Option.bind (M.i_StartCopy r14259) fun r14268 =>
  Option.bind (M.s_StartCopy r14259) fun r14296 =>
  Option.bind (α := Bool) (bif !(r14268.2 == r14296.2) then some true
  else (Option.bind (M.l_vCopying r14268.1 r14296.1) fun r14333 =>
  some (!r14333))) fun o14329 =>
  bif o14329 then some false
  else (Option.bind (M.s_DrawDirtyWords x13555) fun r14437 =>
  Option.bind (M.i_DirtyWords r14437) fun r14465 =>
  Option.bind (M.s_DirtyWords r14437) fun r14474 =>
  Option.bind (α := Bool) (bif r14465.2 == r14474.2 then (Option.bind (M.l_vInts r14465.1 r14474.1) fun r14492 =>
  some r14492)
  else some false) fun o14488 =>
  some o14488)))
  else (Option.bind (M.s_DrawStartCopy x13555) fun r14500 =>
  Option.bind (M.i_StartCopy r14500) fun r14509 =>
  Option.bind (M.s_StartCopy r14500) fun r14537 =>
  Option.bind (α := Bool) (bif !(r14509.2 == r14537.2) then some true
  else (Option.bind (M.l_vCopying r14509.1 r14537.1) fun r14574 =>
  some (!r14574))) fun o14570 =>
  bif o14570 then some false
  else (Option.bind (M.s_DrawDirtyWords x13555) fun r14583 =>
  Option.bind (M.i_DirtyWords r14583) fun r14611 =>
  Option.bind (M.s_DirtyWords r14583) fun r14620 =>
  Option.bind (α := Bool) (bif r14611.2 == r14620.2 then (Option.bind (M.l_vInts r14611.1 r14620.1) fun r14638 =>
  some r14638)
  else some false) fun o14634 =>
  some o14634)))))
  else (Option.bind (M.s_DrawStoreWord x13555) fun r14646 =>
  Option.bind (M.i_StoreWord r14646.1 r14646.2) fun r14680 =>
  Option.bind (M.s_StoreWord r14646.1 r14646.2) fun r14708 =>
  Option.bind (α := Bool) (bif !(r14680.2 == r14708.2) then some true
  else (Option.bind (M.l_vCopying r14680.1 r14708.1) fun r14745 =>
  some (!r14745))) fun o14741 =>
  bif o14741 then some false
  else (bif r14680.2 then (Option.bind (M.i_DirtyWords r14680.1) fun r14755 =>
  Option.bind (α := Bool) (bif !r14755.2 then some true
  else (Option.bind (M.l_vHas r14755.1 r14646.2.Word) fun r14790 =>
  bif !r14790 then some true
  else (Option.bind (gxIdx r14680.1.Memory r14646.2.Word) fun y14797 =>
  bif y14797 != r14646.2.Value then some true
  else (Option.bind (M.l_vInts r14680.1.Copy r14646.1.Copy) fun r14801 =>
  some (!r14801))))) fun o14784 =>
  bif o14784 then some false
  else (Option.bind (M.s_DrawStartCopy x13555) fun r14812 =>
  Option.bind (M.i_StartCopy r14812) fun r14821 =>
  Option.bind (M.s_StartCopy r14812) fun r14849 =>
  Option.bind (α := Bool) (bif !(r14821.2 == r14849.2) then some true
  else (Option.bind (M.l_vCopying r14821.1 r14849.1) fun r14886 =>
  some (!r14886))) fun o14882 =>
  bif o14882 then some false
  else (Option.bind (M.s_DrawDirtyWords x13555) fun r14895 =>
  Option.bind (M.i_DirtyWords r14895) fun r14923 =>
  Option.bind (M.s_DirtyWords r14895) fun r14932 =>
  Option.bind (α := Bool) (bif r14923.2 == r14932.2 then (Option.bind (M.l_vInts r14923.1 r14932.1) fun r14950 =>
  some r14950)
  else some false) fun o14946 =>
  some o14946)))
  else (Option.bind (M.s_DrawStartCopy x13555) fun r14958 =>
  Option.bind (M.i_StartCopy r14958) fun r14967 =>
  Option.bind (M.s_StartCopy r14958) fun r14995 =>
  Option.bind (α := Bool) (bif !(r14967.2 == r14995.2) then some true
  else (Option.bind (M.l_vCopying r14967.1 r14995.1) fun r15032 =>
  some (!r15032))) fun o15028 =>
  bif o15028 then some false
  else (Option.bind (M.s_DrawDirtyWords x13555) fun r15041 =>
  Option.bind (M.i_DirtyWords r15041) fun r15069 =>
  Option.bind (M.s_DirtyWords r15041) fun r15078 =>
  Option.bind (α := Bool) (bif r15069.2 == r15078.2 then (Option.bind (M.l_vInts r15069.1 r15078.1) fun r15096 =>
  some r15096)
  else some false) fun o15092 =>
  some o15092))))))
def M.s_DrawFinishCopy (x15181 : List Int) : Option (Copying) :=
  Option.bind (M.s_DrawIsCopying x15181) fun r15205 =>
  some r15205
end Go.Proofs.Ytjbblcdajdpfkaa
