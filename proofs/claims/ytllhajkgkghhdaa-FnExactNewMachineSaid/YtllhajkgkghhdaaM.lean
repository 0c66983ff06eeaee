/- The models of the functions, printed by program: what each computes, in plain Lean. -/
import Derived.Test.YtllhajkgkghhdaaGxL
set_option linter.unusedVariables false
set_option maxRecDepth 100000
set_option maxHeartbeats 4000000
namespace Go.Proofs.Ytllhajkgkghhdaa
open Go.Gx
structure Slot where
  State : Int
  Irq : Int
  Priority : Int
def encSlot : Enc Slot := ⟨fun x => [.int .i64 x.State, .int .i64 x.Irq, .int .i64 x.Priority], 3, fun _ => rfl, by simp [Value.oneCell']⟩
structure Route where
  Priority : Int
  Target : Int
def encRoute : Enc Route := ⟨fun x => [.int .i64 x.Priority, .int .i64 x.Target], 2, fun _ => rfl, by simp [Value.oneCell']⟩
structure Waiter where
  Irq : Int
  Priority : Int
def encWaiter : Enc Waiter := ⟨fun x => [.int .i64 x.Irq, .int .i64 x.Priority], 2, fun _ => rfl, by simp [Value.oneCell']⟩
structure Queue where
  Slots : List Slot
  Waiting : List Waiter
structure Interface where
  Mask : Int
  Stack : List Int
  Queue : Queue
def deepInterface : Deep Interface := ⟨⟨fun z => [.int .i64 z.1.Mask, .slice ((z.2 0).1) z.1.Stack.length ((z.2 0).2), .slice ((z.2 1).1) z.1.Queue.Slots.length ((z.2 1).2), .slice ((z.2 2).1) z.1.Queue.Waiting.length ((z.2 2).2)], 4, fun _ => rfl, by simp [Value.oneCell']⟩, fun z => [⟨Int, encI, z.1.Stack, (z.2 0).1, (z.2 0).2⟩, ⟨Slot, encSlot, z.1.Queue.Slots, (z.2 1).1, (z.2 1).2⟩, ⟨Waiter, encWaiter, z.1.Queue.Waiting, (z.2 2).1, (z.2 2).2⟩]⟩
structure Machine where
  Routes : List Route
  Enabled : List Bool
  Raised : List Bool
  Cpus : List Interface
def M.l_szRouteS (x7 : List Route) (x12 : Int) : Option (Int) :=
  bif decide ((w64 (x12 - (x7.length : Int))) < 0) then some (-1)
  else some (w64 (x12 - (x7.length : Int)))
def M.l_toRoute (x39 : Route) : Option (Route) :=
  some x39
def M.l_toRouteS (x19 : List Route) : Option ((List Route)) :=
  Option.bind (gxMake 16 (x19.length : Int) ((⟨0, 0⟩ : Route) : Route)) fun mk29 =>
  Option.bind (whileM (σ := Int × List Route) (ρ := List Route) (fun s80 =>
    bif decide (s80.1 < (x19.length : Int)) then (Option.bind (gxIdx x19 s80.1) fun y96 =>
    Option.bind (M.l_toRoute y96) fun r97 =>
    Option.bind (gxIdx s80.2 s80.1) fun y101 =>
    some (.inl (w64 (s80.1 + 1), (s80.2.set s80.1.toNat r97))))
    else some (.inr s80.2)) gxFuel (0, mk29)) fun out87 =>
  some out87
def M.s_l1In (x159 : Int) (x160 : Int) (x161 : Int) : Option (Bool) :=
  Option.bind (α := Bool) (bif decide (x159 ≥ x160) then some (decide (x159 ≤ x161))
  else some false) fun o163 =>
  some o163
def M.s_l6Prio (x158 : Int) : Option (Bool) :=
  Option.bind (M.s_l1In x158 0 15) fun r171 =>
  some r171
def M.s_l21Routes (x150 : List Route) (x155 : Int) : Option (Bool) :=
  Option.bind (whileM (σ := Int) (ρ := (Unit) ⊕ (Bool)) (fun s235 =>
    bif decide (s235 < (x150.length : Int)) then (Option.bind (α := Bool) (Option.bind (gxIdx x150 s235) fun y261 =>
    Option.bind (M.s_l6Prio y261.Priority) fun r262 =>
    bif !r262 then some true
    else (Option.bind (gxIdx x150 s235) fun y267 =>
    Option.bind (M.s_l1In y267.Target 0 (w64 (x155 - 1))) fun r268 =>
    some (!r268))) fun o258 =>
    bif o258 then some (.inr (.inr false))
    else some (.inl (w64 (s235 + 1))))
    else some (.inr (.inl ()))) gxFuel 0) fun out242 => Sum.elim (fun (o245 : Unit) =>
  Option.bind (α := Bool) (Option.bind (M.s_l1In x155 1 2) fun r289 =>
  bif r289 then some ((x150.length : Int) == 8)
  else some false) fun o286 =>
  some o286) (fun r => some r) out242
def M.s_NewMachine (x119 : List Route) (x124 : Int) : Option (Machine × Bool) :=
  Option.bind (M.s_l21Routes x119 x124) fun r298 =>
  bif !r298 then some ((⟨([] : List Route), ([] : List Bool), ([] : List Bool), ([] : List Interface)⟩ : Machine), false)
  else (Option.bind (gxApp 16 ([] : List Route) x119) fun ap316 =>
  Option.bind (gxMake 1 8 (false : Bool)) fun mk322 =>
  Option.bind (gxMake 1 8 (false : Bool)) fun mk328 =>
  Option.bind (whileM (σ := Int × List Interface) (ρ := List Interface) (fun s509 =>
    bif decide (s509.1 < x124) then (Option.bind (gxApp 80 s509.2 [(⟨16, ([] : List Int), (⟨[(⟨0, 0, 0⟩ : Slot), (⟨0, 0, 0⟩ : Slot), (⟨0, 0, 0⟩ : Slot), (⟨0, 0, 0⟩ : Slot)], ([] : List Waiter)⟩ : Queue)⟩ : Interface)]) fun ap571 =>
    some (.inl (w64 (s509.1 + 1), ap571)))
    else some (.inr s509.2)) gxFuel (0, ([] : List Interface))) fun out516 =>
  some ((⟨ap316, mk322, mk328, out516⟩ : Machine), true))
def M.i_inside (x681 : Int) (x682 : Int) (x683 : Int) : Option (Bool) :=
  Option.bind (α := Bool) (bif decide (x681 ≥ x682) then some (decide (x681 ≤ x683))
  else some false) fun o685 =>
  some o685
def M.i_isPriority (x728 : Int) : Option (Bool) :=
  Option.bind (M.i_inside x728 0 15) fun r729 =>
  some r729
def M.i_areRoutes_1 (x719 : Route) (x720 : Int) : Option (Bool) :=
  Option.bind (α := Bool) (Option.bind (M.i_isPriority x719.Priority) fun r745 =>
  bif !r745 then some true
  else (Option.bind (M.i_inside x719.Target 0 (w64 (x720 - 1))) fun r750 =>
  some (!r750))) fun o742 =>
  some o742
def M.slices_IndexFunc_37__i_areRoutes_1 (x708 : List Route) (x713 : Int) : Option (Int) :=
  Option.bind (whileM (σ := Int) (ρ := (Unit) ⊕ (Int)) (fun s770 =>
    bif decide (s770 < (x708.length : Int)) then (Option.bind (gxIdx x708 s770) fun y782 =>
    Option.bind (M.i_areRoutes_1 y782 x713) fun r783 =>
    bif r783 then some (.inr (.inr s770))
    else some (.inl (w64 (s770 + 1))))
    else some (.inr (.inl ()))) gxFuel 0) fun out777 => Sum.elim (fun (o780 : Unit) =>
  some (-1)) (fun r => some r) out777
def M.slices_ContainsFunc_27__i_areRoutes_1 (x699 : List Route) (x704 : Int) : Option (Bool) :=
  Option.bind (M.slices_IndexFunc_37__i_areRoutes_1 x699 x704) fun r792 =>
  some (decide (r792 ≥ 0))
def M.i_areRoutes (x671 : List Route) (x676 : Int) : Option (Bool) :=
  Option.bind (α := Bool) (Option.bind (M.i_inside x676 1 2) fun r803 =>
  bif r803 then (bif (x671.length : Int) == 8 then (Option.bind (M.slices_ContainsFunc_27__i_areRoutes_1 x671 x676) fun r809 =>
  some (!r809))
  else some false)
  else some false) fun o800 =>
  some o800
def M.i_NewMachine (x640 : List Route) (x645 : Int) : Option (Machine × Bool) :=
  Option.bind (M.i_areRoutes x640 x645) fun r817 =>
  bif !r817 then some ((⟨([] : List Route), ([] : List Bool), ([] : List Bool), ([] : List Interface)⟩ : Machine), false)
  else (Option.bind (gxApp 16 ([] : List Route) x640) fun ap835 =>
  Option.bind (gxMake 1 8 (false : Bool)) fun mk841 =>
  Option.bind (gxMake 1 8 (false : Bool)) fun mk847 =>
  Option.bind (whileM (σ := Int × List Interface) (ρ := List Interface) (fun s1086 =>
    bif decide (s1086.1 < x645) then (Option.bind (gxMake 24 4 ((⟨0, 0, 0⟩ : Slot) : Slot)) fun mk1117 =>
    Option.bind (gxApp 80 s1086.2 [(⟨16, ([] : List Int), (⟨mk1117, ([] : List Waiter)⟩ : Queue)⟩ : Interface)]) fun ap1177 =>
    some (.inl (w64 (s1086.1 + 1), ap1177)))
    else some (.inr s1086.2)) gxFuel (0, ([] : List Interface))) fun out1093 =>
  some ((⟨ap835, mk841, mk847, out1093⟩ : Machine), true))
def M.l_eqRoute (x1293 : Route) (x1294 : Route) : Option (Bool) :=
  bif x1293.Priority != x1294.Priority then some false
  else (bif x1293.Target != x1294.Target then some false
  else some true)
def M.l_eqRouteS (x1279 : List Route) (x1284 : List Route) : Option (Bool) :=
  bif (x1279.length : Int) != (x1284.length : Int) then some false
  else (Option.bind (whileM (σ := Int) (ρ := (Unit) ⊕ (Bool)) (fun s1322 =>
    bif decide (s1322 < (x1279.length : Int)) then (Option.bind (gxIdx x1279 s1322) fun y1334 =>
    Option.bind (gxIdx x1284 s1322) fun y1335 =>
    Option.bind (M.l_eqRoute y1334 y1335) fun r1336 =>
    bif !r1336 then some (.inr (.inr false))
    else some (.inl (w64 (s1322 + 1))))
    else some (.inr (.inl ()))) gxFuel 0) fun out1329 => Sum.elim (fun (o1332 : Unit) =>
  some true) (fun r => some r) out1329)
def M.l_eqBoolS (x1352 : List Bool) (x1357 : List Bool) : Option (Bool) :=
  bif (x1352.length : Int) != (x1357.length : Int) then some false
  else (Option.bind (whileM (σ := Int) (ρ := (Unit) ⊕ (Bool)) (fun s1375 =>
    bif decide (s1375 < (x1352.length : Int)) then (Option.bind (gxIdx x1352 s1375) fun y1387 =>
    Option.bind (gxIdx x1357 s1375) fun y1388 =>
    bif !(y1387 == y1388) then some (.inr (.inr false))
    else some (.inl (w64 (s1375 + 1))))
    else some (.inr (.inl ()))) gxFuel 0) fun out1382 => Sum.elim (fun (o1385 : Unit) =>
  some true) (fun r => some r) out1382)
def M.l_eqIntS (x1473 : List Int) (x1478 : List Int) : Option (Bool) :=
  bif (x1473.length : Int) != (x1478.length : Int) then some false
  else (Option.bind (whileM (σ := Int) (ρ := (Unit) ⊕ (Bool)) (fun s1496 =>
    bif decide (s1496 < (x1473.length : Int)) then (Option.bind (gxIdx x1473 s1496) fun y1508 =>
    Option.bind (gxIdx x1478 s1496) fun y1509 =>
    bif y1508 != y1509 then some (.inr (.inr false))
    else some (.inl (w64 (s1496 + 1))))
    else some (.inr (.inl ()))) gxFuel 0) fun out1503 => Sum.elim (fun (o1506 : Unit) =>
  some true) (fun r => some r) out1503)
def M.l_eqSlot (x1562 : Slot) (x1563 : Slot) : Option (Bool) :=
  bif x1562.State != x1563.State then some false
  else (bif x1562.Irq != x1563.Irq then some false
  else (bif x1562.Priority != x1563.Priority then some false
  else some true))
def M.l_eqSlotS (x1548 : List Slot) (x1553 : List Slot) : Option (Bool) :=
  bif (x1548.length : Int) != (x1553.length : Int) then some false
  else (Option.bind (whileM (σ := Int) (ρ := (Unit) ⊕ (Bool)) (fun s1592 =>
    bif decide (s1592 < (x1548.length : Int)) then (Option.bind (gxIdx x1548 s1592) fun y1604 =>
    Option.bind (gxIdx x1553 s1592) fun y1605 =>
    Option.bind (M.l_eqSlot y1604 y1605) fun r1606 =>
    bif !r1606 then some (.inr (.inr false))
    else some (.inl (w64 (s1592 + 1))))
    else some (.inr (.inl ()))) gxFuel 0) fun out1599 => Sum.elim (fun (o1602 : Unit) =>
  some true) (fun r => some r) out1599)
def M.l_eqWaiter (x1636 : Waiter) (x1637 : Waiter) : Option (Bool) :=
  bif x1636.Irq != x1637.Irq then some false
  else (bif x1636.Priority != x1637.Priority then some false
  else some true)
def M.l_eqWaiterS (x1622 : List Waiter) (x1627 : List Waiter) : Option (Bool) :=
  bif (x1622.length : Int) != (x1627.length : Int) then some false
  else (Option.bind (whileM (σ := Int) (ρ := (Unit) ⊕ (Bool)) (fun s1665 =>
    bif decide (s1665 < (x1622.length : Int)) then (Option.bind (gxIdx x1622 s1665) fun y1677 =>
    Option.bind (gxIdx x1627 s1665) fun y1678 =>
    Option.bind (M.l_eqWaiter y1677 y1678) fun r1679 =>
    bif !r1679 then some (.inr (.inr false))
    else some (.inl (w64 (s1665 + 1))))
    else some (.inr (.inl ()))) gxFuel 0) fun out1672 => Sum.elim (fun (o1675 : Unit) =>
  some true) (fun r => some r) out1672)
def M.l_eqQueue (x1522 : Queue) (x1531 : Queue) : Option (Bool) :=
  Option.bind (M.l_eqSlotS x1522.Slots x1531.Slots) fun r1617 =>
  bif !r1617 then some false
  else (Option.bind (M.l_eqWaiterS x1522.Waiting x1531.Waiting) fun r1690 =>
  bif !r1690 then some false
  else some true)
def M.l_eqInterface (x1438 : Interface) (x1451 : Interface) : Option (Bool) :=
  bif x1438.Mask != x1451.Mask then some false
  else (Option.bind (M.l_eqIntS x1438.Stack x1451.Stack) fun r1517 =>
  bif !r1517 then some false
  else (Option.bind (M.l_eqQueue (⟨x1438.Queue.Slots, x1438.Queue.Waiting⟩ : Queue) (⟨x1451.Queue.Slots, x1451.Queue.Waiting⟩ : Queue)) fun r1695 =>
  bif !r1695 then some false
  else some true))
def M.l_eqInterfaceS (x1406 : List Interface) (x1411 : List Interface) : Option (Bool) :=
  bif (x1406.length : Int) != (x1411.length : Int) then some false
  else (Option.bind (whileM (σ := Int) (ρ := (Unit) ⊕ (Bool)) (fun s1735 =>
    bif decide (s1735 < (x1406.length : Int)) then (Option.bind (gxIdx x1406 s1735) fun y1747 =>
    Option.bind (gxIdx x1411 s1735) fun y1757 =>
    Option.bind (M.l_eqInterface (⟨y1747.Mask, y1747.Stack, (⟨y1747.Queue.Slots, y1747.Queue.Waiting⟩ : Queue)⟩ : Interface) (⟨y1757.Mask, y1757.Stack, (⟨y1757.Queue.Slots, y1757.Queue.Waiting⟩ : Queue)⟩ : Interface)) fun r1767 =>
    bif !r1767 then some (.inr (.inr false))
    else some (.inl (w64 (s1735 + 1))))
    else some (.inr (.inl ()))) gxFuel 0) fun out1742 => Sum.elim (fun (o1745 : Unit) =>
  some true) (fun r => some r) out1742)
def M.l_eqMachine (x1237 : Machine) (x1254 : Machine) : Option (Bool) :=
  Option.bind (M.l_eqRouteS x1237.Routes x1254.Routes) fun r1347 =>
  bif !r1347 then some false
  else (Option.bind (M.l_eqBoolS x1237.Enabled x1254.Enabled) fun r1396 =>
  bif !r1396 then some false
  else (Option.bind (M.l_eqBoolS x1237.Raised x1254.Raised) fun r1401 =>
  bif !r1401 then some false
  else (Option.bind (M.l_eqInterfaceS x1237.Cpus x1254.Cpus) fun r1778 =>
  bif !r1778 then some false
  else some true)))
def M.l_markRouteS (x1815 : List Route) (x1821 : Int) : Option (Int × (List Route)) :=
  Option.bind (whileM (σ := Int × Int × List Route) (ρ := Int × List Route) (fun s1848 =>
    bif decide (s1848.2.1 < (s1848.2.2.length : Int)) then (Option.bind (gxIdx s1848.2.2 s1848.2.1) fun y1866 =>
    Option.bind (gxIdx (s1848.2.2.set s1848.2.1.toNat (⟨s1848.1, y1866.Target⟩ : Route)) s1848.2.1) fun y1871 =>
    some (.inl (w64 ((w64 (s1848.1 + 1)) + 1), w64 (s1848.2.1 + 1), ((s1848.2.2.set s1848.2.1.toNat (⟨s1848.1, y1866.Target⟩ : Route)).set s1848.2.1.toNat (⟨y1871.Priority, w64 (s1848.1 + 1)⟩ : Route)))))
    else some (.inr (s1848.1, s1848.2.2))) gxFuel (x1821, 0, x1815)) fun out1855 =>
  some (out1855.1, out1855.2)
def M.l_markBoolS (x1947 : List Bool) (x1953 : Int) : Option (Int × (List Bool)) :=
  Option.bind (whileM (σ := Int × Int × List Bool) (ρ := Int × List Bool) (fun s1970 =>
    bif decide (s1970.2.1 < (s1970.2.2.length : Int)) then (Option.bind (gxIdx s1970.2.2 s1970.2.1) fun y1988 =>
    some (.inl (w64 (s1970.1 + 1), w64 (s1970.2.1 + 1), (s1970.2.2.set s1970.2.1.toNat ((s1970.1.tmod 3) == 0)))))
    else some (.inr (s1970.1, s1970.2.2))) gxFuel (x1953, 0, x1947)) fun out1977 =>
  some (out1977.1, out1977.2)
def M.l_markIntS (x2049 : List Int) (x2055 : Int) : Option (Int × (List Int)) :=
  Option.bind (whileM (σ := Int × Int × List Int) (ρ := Int × List Int) (fun s2072 =>
    bif decide (s2072.2.1 < (s2072.2.2.length : Int)) then (Option.bind (gxIdx s2072.2.2 s2072.2.1) fun y2090 =>
    some (.inl (w64 (s2072.1 + 1), w64 (s2072.2.1 + 1), (s2072.2.2.set s2072.2.1.toNat s2072.1))))
    else some (.inr (s2072.1, s2072.2.2))) gxFuel (x2055, 0, x2049)) fun out2079 =>
  some (out2079.1, out2079.2)
def M.l_markSlotS (x2150 : List Slot) (x2156 : Int) : Option (Int × (List Slot)) :=
  Option.bind (whileM (σ := Int × Int × List Slot) (ρ := Int × List Slot) (fun s2193 =>
    bif decide (s2193.2.1 < (s2193.2.2.length : Int)) then (Option.bind (gxIdx s2193.2.2 s2193.2.1) fun y2211 =>
    Option.bind (gxIdx (s2193.2.2.set s2193.2.1.toNat (⟨s2193.1, y2211.Irq, y2211.Priority⟩ : Slot)) s2193.2.1) fun y2216 =>
    Option.bind (gxIdx ((s2193.2.2.set s2193.2.1.toNat (⟨s2193.1, y2211.Irq, y2211.Priority⟩ : Slot)).set s2193.2.1.toNat (⟨y2216.State, w64 (s2193.1 + 1), y2216.Priority⟩ : Slot)) s2193.2.1) fun y2221 =>
    some (.inl (w64 ((w64 ((w64 (s2193.1 + 1)) + 1)) + 1), w64 (s2193.2.1 + 1), (((s2193.2.2.set s2193.2.1.toNat (⟨s2193.1, y2211.Irq, y2211.Priority⟩ : Slot)).set s2193.2.1.toNat (⟨y2216.State, w64 (s2193.1 + 1), y2216.Priority⟩ : Slot)).set s2193.2.1.toNat (⟨y2221.State, y2221.Irq, w64 ((w64 (s2193.1 + 1)) + 1)⟩ : Slot)))))
    else some (.inr (s2193.1, s2193.2.2))) gxFuel (x2156, 0, x2150)) fun out2200 =>
  some (out2200.1, out2200.2)
def M.l_markWaiterS (x2281 : List Waiter) (x2287 : Int) : Option (Int × (List Waiter)) :=
  Option.bind (whileM (σ := Int × Int × List Waiter) (ρ := Int × List Waiter) (fun s2314 =>
    bif decide (s2314.2.1 < (s2314.2.2.length : Int)) then (Option.bind (gxIdx s2314.2.2 s2314.2.1) fun y2332 =>
    Option.bind (gxIdx (s2314.2.2.set s2314.2.1.toNat (⟨s2314.1, y2332.Priority⟩ : Waiter)) s2314.2.1) fun y2337 =>
    some (.inl (w64 ((w64 (s2314.1 + 1)) + 1), w64 (s2314.2.1 + 1), ((s2314.2.2.set s2314.2.1.toNat (⟨s2314.1, y2332.Priority⟩ : Waiter)).set s2314.2.1.toNat (⟨y2337.Irq, w64 (s2314.1 + 1)⟩ : Waiter)))))
    else some (.inr (s2314.1, s2314.2.2))) gxFuel (x2287, 0, x2281)) fun out2321 =>
  some (out2321.1, out2321.2)
def M.l_markInterfaceS (x2013 : List Interface) (x2020 : Int) : Option (Int × (List Interface)) :=
  Option.bind (whileM (σ := Int × Int × List Interface) (ρ := Int × List Interface) (fun s2560 =>
    bif decide (s2560.2.1 < (s2560.2.2.length : Int)) then (Option.bind (gxIdx s2560.2.2 s2560.2.1) fun y2580 =>
    Option.bind (gxIdx (s2560.2.2.set s2560.2.1.toNat (⟨s2560.1, y2580.Stack, (⟨y2580.Queue.Slots, y2580.Queue.Waiting⟩ : Queue)⟩ : Interface)) s2560.2.1) fun y2595 =>
    Option.bind (M.l_markIntS y2595.Stack (w64 (s2560.1 + 1))) fun r2605 =>
    Option.bind (gxIdx ((s2560.2.2.set s2560.2.1.toNat (⟨s2560.1, y2580.Stack, (⟨y2580.Queue.Slots, y2580.Queue.Waiting⟩ : Queue)⟩ : Interface)).set s2560.2.1.toNat (⟨y2595.Mask, r2605.2, (⟨y2595.Queue.Slots, y2595.Queue.Waiting⟩ : Queue)⟩ : Interface)) s2560.2.1) fun y2646 =>
    Option.bind (M.l_markSlotS y2646.Queue.Slots r2605.1) fun r2656 =>
    Option.bind (gxIdx (((s2560.2.2.set s2560.2.1.toNat (⟨s2560.1, y2580.Stack, (⟨y2580.Queue.Slots, y2580.Queue.Waiting⟩ : Queue)⟩ : Interface)).set s2560.2.1.toNat (⟨y2595.Mask, r2605.2, (⟨y2595.Queue.Slots, y2595.Queue.Waiting⟩ : Queue)⟩ : Interface)).set s2560.2.1.toNat (⟨y2646.Mask, y2646.Stack, (⟨r2656.2, y2646.Queue.Waiting⟩ : Queue)⟩ : Interface)) s2560.2.1) fun y2697 =>
    Option.bind (M.l_markWaiterS y2697.Queue.Waiting r2656.1) fun r2707 =>
    some (.inl (r2707.1, w64 (s2560.2.1 + 1), ((((s2560.2.2.set s2560.2.1.toNat (⟨s2560.1, y2580.Stack, (⟨y2580.Queue.Slots, y2580.Queue.Waiting⟩ : Queue)⟩ : Interface)).set s2560.2.1.toNat (⟨y2595.Mask, r2605.2, (⟨y2595.Queue.Slots, y2595.Queue.Waiting⟩ : Queue)⟩ : Interface)).set s2560.2.1.toNat (⟨y2646.Mask, y2646.Stack, (⟨r2656.2, y2646.Queue.Waiting⟩ : Queue)⟩ : Interface)).set s2560.2.1.toNat (⟨y2697.Mask, y2697.Stack, (⟨y2697.Queue.Slots, r2707.2⟩ : Queue)⟩ : Interface)))))
    else some (.inr (s2560.1, s2560.2.2))) gxFuel (x2020, 0, x2013)) fun out2567 =>
  some (out2567.1, out2567.2)
def M.l_markMachine (x1907 : Machine) (x1929 : Int) : Option (Int × (List Route) × (List Bool) × (List Bool) × (List Interface)) :=
  Option.bind (M.l_markRouteS x1907.Routes x1929) fun r1939 =>
  Option.bind (M.l_markBoolS x1907.Enabled r1939.1) fun r1997 =>
  Option.bind (M.l_markBoolS x1907.Raised r1997.1) fun r2005 =>
  Option.bind (M.l_markInterfaceS x1907.Cpus r2005.1) fun r2752 =>
  some (r2752.1, r1939.2, r1997.2, r2005.2, r2752.2)
def M.l_heldRouteS (x2801 : List Route) (x2806 : Int) : Option (Int) :=
  Option.bind (whileM (σ := Int × Int) (ρ := (Int) ⊕ (Int)) (fun s2817 =>
    bif decide (s2817.2 < (x2801.length : Int)) then (Option.bind (gxIdx x2801 s2817.2) fun y2829 =>
    bif y2829.Priority != s2817.1 then some (.inr (.inr (-1)))
    else (Option.bind (gxIdx x2801 s2817.2) fun y2831 =>
    bif y2831.Target != (w64 (s2817.1 + 1)) then some (.inr (.inr (-1)))
    else some (.inl (w64 ((w64 (s2817.1 + 1)) + 1), w64 (s2817.2 + 1)))))
    else some (.inr (.inl s2817.1))) gxFuel (x2806, 0)) fun out2824 => Sum.elim (fun (o2827 : Int) =>
  some o2827) (fun r => some r) out2824
def M.l_heldBoolS (x2842 : List Bool) (x2847 : Int) : Option (Int) :=
  Option.bind (whileM (σ := Int × Int) (ρ := (Int) ⊕ (Int)) (fun s2854 =>
    bif decide (s2854.2 < (x2842.length : Int)) then (Option.bind (gxIdx x2842 s2854.2) fun y2866 =>
    bif !(y2866 == ((s2854.1.tmod 3) == 0)) then some (.inr (.inr (-1)))
    else some (.inl (w64 (s2854.1 + 1), w64 (s2854.2 + 1))))
    else some (.inr (.inl s2854.1))) gxFuel (x2847, 0)) fun out2861 => Sum.elim (fun (o2864 : Int) =>
  some o2864) (fun r => some r) out2861
def M.l_heldIntS (x2906 : List Int) (x2911 : Int) : Option (Int) :=
  Option.bind (whileM (σ := Int × Int) (ρ := (Int) ⊕ (Int)) (fun s2918 =>
    bif decide (s2918.2 < (x2906.length : Int)) then (Option.bind (gxIdx x2906 s2918.2) fun y2930 =>
    bif y2930 != s2918.1 then some (.inr (.inr (-1)))
    else some (.inl (w64 (s2918.1 + 1), w64 (s2918.2 + 1))))
    else some (.inr (.inl s2918.1))) gxFuel (x2911, 0)) fun out2925 => Sum.elim (fun (o2928 : Int) =>
  some o2928) (fun r => some r) out2925
def M.l_heldSlotS (x2947 : List Slot) (x2952 : Int) : Option (Int) :=
  Option.bind (whileM (σ := Int × Int) (ρ := (Int) ⊕ (Int)) (fun s2967 =>
    bif decide (s2967.2 < (x2947.length : Int)) then (Option.bind (gxIdx x2947 s2967.2) fun y2979 =>
    bif y2979.State != s2967.1 then some (.inr (.inr (-1)))
    else (Option.bind (gxIdx x2947 s2967.2) fun y2981 =>
    bif y2981.Irq != (w64 (s2967.1 + 1)) then some (.inr (.inr (-1)))
    else (Option.bind (gxIdx x2947 s2967.2) fun y2983 =>
    bif y2983.Priority != (w64 ((w64 (s2967.1 + 1)) + 1)) then some (.inr (.inr (-1)))
    else some (.inl (w64 ((w64 ((w64 (s2967.1 + 1)) + 1)) + 1), w64 (s2967.2 + 1))))))
    else some (.inr (.inl s2967.1))) gxFuel (x2952, 0)) fun out2974 => Sum.elim (fun (o2977 : Int) =>
  some o2977) (fun r => some r) out2974
def M.l_heldWaiterS (x3000 : List Waiter) (x3005 : Int) : Option (Int) :=
  Option.bind (whileM (σ := Int × Int) (ρ := (Int) ⊕ (Int)) (fun s3016 =>
    bif decide (s3016.2 < (x3000.length : Int)) then (Option.bind (gxIdx x3000 s3016.2) fun y3028 =>
    bif y3028.Irq != s3016.1 then some (.inr (.inr (-1)))
    else (Option.bind (gxIdx x3000 s3016.2) fun y3030 =>
    bif y3030.Priority != (w64 (s3016.1 + 1)) then some (.inr (.inr (-1)))
    else some (.inl (w64 ((w64 (s3016.1 + 1)) + 1), w64 (s3016.2 + 1)))))
    else some (.inr (.inl s3016.1))) gxFuel (x3005, 0)) fun out3023 => Sum.elim (fun (o3026 : Int) =>
  some o3026) (fun r => some r) out3023
def M.l_heldInterfaceS (x2882 : List Interface) (x2887 : Int) : Option (Int) :=
  Option.bind (whileM (σ := Int × Int) (ρ := (Int) ⊕ (Int)) (fun s3086 =>
    bif decide (s3086.2 < (x2882.length : Int)) then (Option.bind (gxIdx x2882 s3086.2) fun y3098 =>
    bif y3098.Mask != s3086.1 then some (.inr (.inr (-1)))
    else (Option.bind (gxIdx x2882 s3086.2) fun y3109 =>
    Option.bind (M.l_heldIntS y3109.Stack (w64 (s3086.1 + 1))) fun r3115 =>
    bif decide (r3115 < 0) then some (.inr (.inr (-1)))
    else (Option.bind (gxIdx x2882 s3086.2) fun y3120 =>
    Option.bind (M.l_heldSlotS y3120.Queue.Slots r3115) fun r3126 =>
    bif decide (r3126 < 0) then some (.inr (.inr (-1)))
    else (Option.bind (gxIdx x2882 s3086.2) fun y3131 =>
    Option.bind (M.l_heldWaiterS y3131.Queue.Waiting r3126) fun r3137 =>
    bif decide (r3137 < 0) then some (.inr (.inr (-1)))
    else some (.inl (r3137, w64 (s3086.2 + 1)))))))
    else some (.inr (.inl s3086.1))) gxFuel (x2887, 0)) fun out3093 => Sum.elim (fun (o3096 : Int) =>
  some o3096) (fun r => some r) out3093
def M.l_heldMachine (x2779 : Machine) (x2796 : Int) : Option (Int) :=
  Option.bind (M.l_heldRouteS x2779.Routes x2796) fun r2837 =>
  bif decide (r2837 < 0) then some (-1)
  else (Option.bind (M.l_heldBoolS x2779.Enabled r2837) fun r2872 =>
  bif decide (r2872 < 0) then some (-1)
  else (Option.bind (M.l_heldBoolS x2779.Raised r2872) fun r2877 =>
  bif decide (r2877 < 0) then some (-1)
  else (Option.bind (M.l_heldInterfaceS x2779.Cpus r2877) fun r3146 =>
  bif decide (r3146 < 0) then some (-1)
  else some r3146)))
def M.l_FnExactNewMachine (x1 : List Route) (x6 : Int) : Option (Bool) :=
  Option.bind (M.l_szRouteS x1 1048576) fun r14 =>
  bif decide (r14 < 0) then some true
  else (Option.bind (M.l_toRouteS x1) fun r110 =>
  Option.bind (M.s_NewMachine r110 x6) fun r596 =>
  Option.bind (M.l_toRouteS x1) fun r631 =>
  Option.bind (M.i_NewMachine r631 x6) fun r1202 =>
  Option.bind (α := Bool) (Option.bind (M.l_eqMachine r1202.1 r596.1) fun r1791 =>
  bif !r1791 then some true
  else some (!(r1202.2 == r596.2))) fun o1788 =>
  bif o1788 then some false
  else (Option.bind (M.l_toRouteS x1) fun r1801 =>
  Option.bind (M.l_eqRouteS r631 r1801) fun r1810 =>
  bif !r1810 then some false
  else (Option.bind (M.l_markRouteS r631 1) fun r1880 =>
  Option.bind (α := Bool) (bif decide (r1880.1 < 0) then some true
  else (Option.bind (M.l_eqMachine r1202.1 r596.1) fun r1897 =>
  bif !r1897 then some true
  else some (!(r1202.2 == r596.2)))) fun o1893 =>
  bif o1893 then some false
  else (Option.bind (M.l_markMachine r1202.1 1) fun r2761 =>
  Option.bind (M.l_heldMachine (⟨r2761.2.1, r2761.2.2.1, r2761.2.2.2.1, r2761.2.2.2.2⟩ : Machine) 1) fun r3151 =>
  bif decide (r3151 < 0) then some false
  else (bif r3151 != r2761.1 then some false
  else (Option.bind (M.l_toRouteS x1) fun r3157 =>
  Option.bind (M.i_NewMachine r3157 x6) fun r3166 =>
  Option.bind (α := Bool) (Option.bind (M.l_eqMachine r3166.1 r596.1) fun r3209 =>
  bif !r3209 then some true
  else some (!(r3166.2 == r596.2))) fun o3206 =>
  bif o3206 then some false
  else (Option.bind (M.l_heldMachine (⟨r2761.2.1, r2761.2.2.1, r2761.2.2.2.1, r2761.2.2.2.2⟩ : Machine) 1) fun r3219 =>
  bif decide (r3219 < 0) then some false
  else (bif r3219 != r2761.1 then some false
  else some true))))))))
end Go.Proofs.Ytllhajkgkghhdaa
