/- The models of the functions, printed by program: what each computes, in plain Lean. -/
import Derived.Test.YtllhajkgkghhdaaGreatGxT
import Derived.Lib.BitFns
set_option linter.unusedVariables false
set_option maxRecDepth 100000
set_option maxHeartbeats 4000000
namespace Go.Proofs.YtllhajkgkghhdaaGreat
open Go.Gx
structure MachStep where
  Kind : Int
  Irq : Int
  Cpu : Int
  Value : Int
def encMachStep : Enc MachStep := ⟨fun x => [.int .i64 x.Kind, .int .i64 x.Irq, .int .i64 x.Cpu, .int .i64 x.Value], 4, fun _ => rfl, by simp [Value.oneCell']⟩
structure l1Cur where
  code : List Int
  at_ : Int
  seed : Int
structure Slot where
  State : Int
  Irq : Int
  Priority : Int
def encSlot : Enc Slot := ⟨fun x => [.int .i64 x.State, .int .i64 x.Irq, .int .i64 x.Priority], 3, fun _ => rfl, by simp [Value.oneCell']⟩
structure Route where
  Priority : Int
  Target : Int
def encRoute : Enc Route := ⟨fun x => [.int .i64 x.Priority, .int .i64 x.Target], 2, fun _ => rfl, by simp [Value.oneCell']⟩
structure Waiter where
  Irq : Int
  Priority : Int
def encWaiter : Enc Waiter := ⟨fun x => [.int .i64 x.Irq, .int .i64 x.Priority], 2, fun _ => rfl, by simp [Value.oneCell']⟩
structure Queue where
  Slots : List Slot
  Waiting : List Waiter
structure Interface where
  Mask : Int
  Stack : List Int
  Queue : Queue
def deepInterface : Deep Interface := ⟨⟨fun z => [.int .i64 z.1.Mask, .slice ((z.2 0).1) z.1.Stack.length ((z.2 0).2), .slice ((z.2 1).1) z.1.Queue.Slots.length ((z.2 1).2), .slice ((z.2 2).1) z.1.Queue.Waiting.length ((z.2 2).2)], 4, fun _ => rfl, by simp [Value.oneCell']⟩, fun z => [⟨Int, Gx.encI, z.1.Stack, (z.2 0).1, (z.2 0).2⟩, ⟨Slot, encSlot, z.1.Queue.Slots, (z.2 1).1, (z.2 1).2⟩, ⟨Waiter, encWaiter, z.1.Queue.Waiting, (z.2 2).1, (z.2 2).2⟩]⟩
structure Machine where
  Routes : List Route
  Enabled : List Bool
  Raised : List Bool
  Cpus : List Interface
def M.l_szRouteS (x44 : List Route) (x49 : Int) : Option (Int) :=
  bif decide ((w64 (x49 - (x44.length : Int))) < 0) then some (-1)
  else some (w64 (x49 - (x44.length : Int)))
def M.l_szBoolS (x56 : List Bool) (x61 : Int) : Option (Int) :=
  bif decide ((w64 (x61 - (x56.length : Int))) < 0) then some (-1)
  else some (w64 (x61 - (x56.length : Int)))
def M.l_szIntS (x109 : List Int) (x114 : Int) : Option (Int) :=
  bif decide ((w64 (x114 - (x109.length : Int))) < 0) then some (-1)
  else some (w64 (x114 - (x109.length : Int)))
def M.l_szSlotS (x135 : List Slot) (x140 : Int) : Option (Int) :=
  bif decide ((w64 (x140 - (x135.length : Int))) < 0) then some (-1)
  else some (w64 (x140 - (x135.length : Int)))
def M.l_szWaiterS (x147 : List Waiter) (x152 : Int) : Option (Int) :=
  bif decide ((w64 (x152 - (x147.length : Int))) < 0) then some (-1)
  else some (w64 (x152 - (x147.length : Int)))
def M.l_szQueue (x121 : Queue) (x130 : Int) : Option (Int) :=
  Option.bind (M.l_szSlotS x121.Slots x130) fun r142 =>
  bif decide (r142 < 0) then some (-1)
  else (Option.bind (M.l_szWaiterS x121.Waiting r142) fun r154 =>
  bif decide (r154 < 0) then some (-1)
  else some r154)
def M.l_szInterface (x91 : Interface) (x104 : Int) : Option (Int) :=
  Option.bind (M.l_szIntS x91.Stack x104) fun r116 =>
  bif decide (r116 < 0) then some (-1)
  else (Option.bind (M.l_szQueue (⟨x91.Queue.Slots, x91.Queue.Waiting⟩ : Queue) r116) fun r159 =>
  bif decide (r159 < 0) then some (-1)
  else some r159)
def M.l_szInterfaceS (x73 : List Interface) (x78 : Int) : Option (Int) :=
  bif decide ((w64 (x78 - (x73.length : Int))) < 0) then some (-1)
  else (Option.bind (whileM (σ := Int × Int) (ρ := (Int) ⊕ (Int)) (fun s185 =>
    bif decide (s185.2 < (x73.length : Int)) then (Option.bind (gxIdx x73 s185.2) fun y197 =>
    Option.bind (M.l_szInterface (⟨y197.Mask, y197.Stack, (⟨y197.Queue.Slots, y197.Queue.Waiting⟩ : Queue)⟩ : Interface) s185.1) fun r207 =>
    bif decide (r207 < 0) then some (.inr (.inr (-1)))
    else some (.inl (r207, w64 (s185.2 + 1))))
    else some (.inr (.inl s185.1))) gxFuel (w64 (x78 - (x73.length : Int)), 0)) fun out192 => Sum.elim (fun (o195 : Int) =>
  some o195) (fun r => some r) out192)
def M.l_szMachine (x22 : Machine) (x39 : Int) : Option (Int) :=
  Option.bind (M.l_szRouteS x22.Routes x39) fun r51 =>
  bif decide (r51 < 0) then some (-1)
  else (Option.bind (M.l_szBoolS x22.Enabled r51) fun r63 =>
  bif decide (r63 < 0) then some (-1)
  else (Option.bind (M.l_szBoolS x22.Raised r63) fun r68 =>
  bif decide (r68 < 0) then some (-1)
  else (Option.bind (M.l_szInterfaceS x22.Cpus r68) fun r216 =>
  bif decide (r216 < 0) then some (-1)
  else some r216)))
def M.l_toRoute (x300 : Route) : Option (Route) :=
  some x300
def M.l_toRouteS (x280 : List Route) : Option ((List Route)) :=
  Option.bind (gxMake 16 (x280.length : Int) ((⟨0, 0⟩ : Route) : Route)) fun mk290 =>
  Option.bind (whileM (σ := Int × List Route) (ρ := List Route) (fun s341 =>
    bif decide (s341.1 < (x280.length : Int)) then (Option.bind (gxIdx x280 s341.1) fun y357 =>
    Option.bind (M.l_toRoute y357) fun r358 =>
    Option.bind (gxIdx s341.2 s341.1) fun y362 =>
    some (.inl (w64 (s341.1 + 1), (s341.2.set s341.1.toNat r358))))
    else some (.inr s341.2)) gxFuel (0, mk290)) fun out348 =>
  some out348
def M.l_toBoolS (x382 : List Bool) : Option ((List Bool)) :=
  Option.bind (gxMake 1 (x382.length : Int) (false : Bool)) fun mk392 =>
  Option.bind (whileM (σ := Int × List Bool) (ρ := List Bool) (fun s416 =>
    bif decide (s416.1 < (x382.length : Int)) then (Option.bind (gxIdx x382 s416.1) fun y432 =>
    Option.bind (gxIdx s416.2 s416.1) fun y433 =>
    some (.inl (w64 (s416.1 + 1), (s416.2.set s416.1.toNat y432))))
    else some (.inr s416.2)) gxFuel (0, mk392)) fun out423 =>
  some out423
def M.l_toIntS (x544 : List Int) : Option ((List Int)) :=
  Option.bind (gxMake 8 (x544.length : Int) (0 : Int)) fun mk554 =>
  Option.bind (whileM (σ := Int × List Int) (ρ := List Int) (fun s578 =>
    bif decide (s578.1 < (x544.length : Int)) then (Option.bind (gxIdx x544 s578.1) fun y594 =>
    Option.bind (gxIdx s578.2 s578.1) fun y595 =>
    some (.inl (w64 (s578.1 + 1), (s578.2.set s578.1.toNat y594))))
    else some (.inr s578.2)) gxFuel (0, mk554)) fun out585 =>
  some out585
def M.l_toSlot (x668 : Slot) : Option (Slot) :=
  some x668
def M.l_toSlotS (x648 : List Slot) : Option ((List Slot)) :=
  Option.bind (gxMake 24 (x648.length : Int) ((⟨0, 0, 0⟩ : Slot) : Slot)) fun mk658 =>
  Option.bind (whileM (σ := Int × List Slot) (ρ := List Slot) (fun s711 =>
    bif decide (s711.1 < (x648.length : Int)) then (Option.bind (gxIdx x648 s711.1) fun y727 =>
    Option.bind (M.l_toSlot y727) fun r728 =>
    Option.bind (gxIdx s711.2 s711.1) fun y732 =>
    some (.inl (w64 (s711.1 + 1), (s711.2.set s711.1.toNat r728))))
    else some (.inr s711.2)) gxFuel (0, mk658)) fun out718 =>
  some out718
def M.l_toWaiter (x772 : Waiter) : Option (Waiter) :=
  some x772
def M.l_toWaiterS (x752 : List Waiter) : Option ((List Waiter)) :=
  Option.bind (gxMake 16 (x752.length : Int) ((⟨0, 0⟩ : Waiter) : Waiter)) fun mk762 =>
  Option.bind (whileM (σ := Int × List Waiter) (ρ := List Waiter) (fun s813 =>
    bif decide (s813.1 < (x752.length : Int)) then (Option.bind (gxIdx x752 s813.1) fun y829 =>
    Option.bind (M.l_toWaiter y829) fun r830 =>
    Option.bind (gxIdx s813.2 s813.1) fun y834 =>
    some (.inl (w64 (s813.1 + 1), (s813.2.set s813.1.toNat r830))))
    else some (.inr s813.2)) gxFuel (0, mk762)) fun out820 =>
  some out820
def M.l_toQueue (x615 : Queue) : Option (Queue) :=
  Option.bind (M.l_toSlotS x615.Slots) fun r741 =>
  Option.bind (M.l_toWaiterS x615.Waiting) fun r843 =>
  some (⟨r741, r843⟩ : Queue)
def M.l_toInterface (x499 : Interface) : Option (Interface) :=
  Option.bind (M.l_toIntS x499.Stack) fun r604 =>
  Option.bind (M.l_toQueue (⟨x499.Queue.Slots, x499.Queue.Waiting⟩ : Queue)) fun r856 =>
  some (⟨x499.Mask, r604, r856⟩ : Interface)
def M.l_toInterfaceS (x464 : List Interface) : Option ((List Interface)) :=
  Option.bind (gxMake 80 (x464.length : Int) ((⟨0, [], (⟨[], []⟩ : Queue)⟩ : Interface) : Interface)) fun mk478 =>
  Option.bind (whileM (σ := Int × List Interface) (ρ := List Interface) (fun s976 =>
    bif decide (s976.1 < (x464.length : Int)) then (Option.bind (gxIdx x464 s976.1) fun y994 =>
    Option.bind (M.l_toInterface (⟨y994.Mask, y994.Stack, (⟨y994.Queue.Slots, y994.Queue.Waiting⟩ : Queue)⟩ : Interface)) fun r1004 =>
    Option.bind (gxIdx s976.2 s976.1) fun y1023 =>
    some (.inl (w64 (s976.1 + 1), (s976.2.set s976.1.toNat (⟨r1004.Mask, r1004.Stack, (⟨r1004.Queue.Slots, r1004.Queue.Waiting⟩ : Queue)⟩ : Interface)))))
    else some (.inr s976.2)) gxFuel (0, mk478)) fun out983 =>
  some out983
def M.l_toMachine (x226 : Machine) : Option (Machine) :=
  Option.bind (M.l_toRouteS x226.Routes) fun r371 =>
  Option.bind (M.l_toBoolS x226.Enabled) fun r442 =>
  Option.bind (M.l_toBoolS x226.Raised) fun r453 =>
  Option.bind (M.l_toInterfaceS x226.Cpus) fun r1052 =>
  some (⟨r371, r442, r453, r1052⟩ : Machine)
def M.s_l1In (x1142 : Int) (x1143 : Int) (x1144 : Int) : Option (Bool) :=
  Option.bind (α := Bool) (bif decide (x1142 ≥ x1143) then some (decide (x1142 ≤ x1144))
  else some false) fun o1146 =>
  some o1146
def M.s_l6Prio (x1141 : Int) : Option (Bool) :=
  Option.bind (M.s_l1In x1141 0 15) fun r1154 =>
  some r1154
def M.s_l21Routes (x1133 : List Route) (x1138 : Int) : Option (Bool) :=
  Option.bind (whileM (σ := Int) (ρ := (Unit) ⊕ (Bool)) (fun s1218 =>
    bif decide (s1218 < (x1133.length : Int)) then (Option.bind (α := Bool) (Option.bind (gxIdx x1133 s1218) fun y1244 =>
    Option.bind (M.s_l6Prio y1244.Priority) fun r1245 =>
    bif !r1245 then some true
    else (Option.bind (gxIdx x1133 s1218) fun y1250 =>
    Option.bind (M.s_l1In y1250.Target 0 (w64 (x1138 - 1))) fun r1251 =>
    some (!r1251))) fun o1241 =>
    bif o1241 then some (.inr (.inr false))
    else some (.inl (w64 (s1218 + 1))))
    else some (.inr (.inl ()))) gxFuel 0) fun out1225 => Sum.elim (fun (o1228 : Unit) =>
  Option.bind (α := Bool) (Option.bind (M.s_l1In x1138 1 2) fun r1272 =>
  bif r1272 then some ((x1133.length : Int) == 8)
  else some false) fun o1269 =>
  some o1269) (fun r => some r) out1225
def M.s_l6Irq (x1374 : Int) : Option (Bool) :=
  Option.bind (M.s_l1In x1374 0 7) fun r1375 =>
  some r1375
def M.s_l8Find (x1389 : List Slot) (x1394 : Int) : Option (Int) :=
  Option.bind (whileM (σ := Int) (ρ := (Unit) ⊕ (Int)) (fun s1425 =>
    bif decide (s1425 < (x1389.length : Int)) then (Option.bind (α := Bool) (Option.bind (gxIdx x1389 s1425) fun y1443 =>
    bif y1443.State != 0 then (Option.bind (gxIdx x1389 s1425) fun y1445 =>
    some (y1445.Irq == x1394))
    else some false) fun o1440 =>
    bif o1440 then some (.inr (.inr s1425))
    else some (.inl (w64 (s1425 + 1))))
    else some (.inr (.inl ()))) gxFuel 0) fun out1432 => Sum.elim (fun (o1435 : Unit) =>
  some (-1)) (fun r => some r) out1432
def M.s_l8Less (x1484 : Int) (x1485 : Int) (x1486 : Int) (x1487 : Int) : Option (Bool) :=
  Option.bind (α := Bool) (bif decide (x1484 < x1486) then some true
  else (bif x1484 == x1486 then some (decide (x1485 < x1487))
  else some false)) fun o1490 =>
  some o1490
def M.s_l8Good (x1797 : List Slot) : Option (Bool) :=
  Option.bind (whileM (σ := Int) (ρ := (Unit) ⊕ (Bool)) (fun s1958 =>
    bif decide (s1958 < (x1797.length : Int)) then (Option.bind (gxIdx x1797 s1958) fun y1970 =>
    Option.bind (α := Bool) (Option.bind (M.s_l1In y1970.State 0 3) fun r1994 =>
    bif !r1994 then some true
    else (Option.bind (M.s_l6Irq y1970.Irq) fun r1999 =>
    bif !r1999 then some true
    else (Option.bind (M.s_l6Prio y1970.Priority) fun r2004 =>
    some (!r2004)))) fun o1991 =>
    bif o1991 then some (.inr (.inr false))
    else (Option.bind (α := Bool) (bif y1970.State == 0 then (bif y1970.Irq != 0 then some true
    else (bif y1970.Priority != 0 then some true
    else (bif y1970.State != 0 then (Option.bind (M.s_l8Find x1797 y1970.Irq) fun r2033 =>
    some (r2033 != s1958))
    else some false)))
    else (bif y1970.State != 0 then (Option.bind (M.s_l8Find x1797 y1970.Irq) fun r2038 =>
    some (r2038 != s1958))
    else some false)) fun o2026 =>
    bif o2026 then some (.inr (.inr false))
    else some (.inl (w64 (s1958 + 1)))))
    else some (.inr (.inl ()))) gxFuel 0) fun out1965 => Sum.elim (fun (o1968 : Unit) =>
  some ((x1797.length : Int) == 4)) (fun r => some r) out1965
def M.s_l9Waiting (x1347 : List Slot) (x1352 : List Waiter) : Option (Bool) :=
  Option.bind (whileM (σ := Int) (ρ := (Unit) ⊕ (Bool)) (fun s1669 =>
    Option.bind (α := Bool) (bif decide (s1669 < (x1352.length : Int)) then some (decide (s1669 ≤ 8))
    else some false) fun o1681 =>
    bif o1681 then (Option.bind (gxIdx x1352 s1669) fun y1690 =>
    Option.bind (α := Bool) (Option.bind (M.s_l6Irq y1690.Irq) fun r1714 =>
    bif !r1714 then some true
    else (Option.bind (M.s_l6Prio y1690.Priority) fun r1719 =>
    bif !r1719 then some true
    else (Option.bind (M.s_l8Find x1347 y1690.Irq) fun r1724 =>
    some (decide (r1724 ≥ 0))))) fun o1711 =>
    bif o1711 then some (.inr (.inr false))
    else (Option.bind (α := Bool) (bif decide (s1669 > 0) then (Option.bind (gxIdx x1352 (w64 (s1669 - 1))) fun y1748 =>
    Option.bind (gxIdx x1352 (w64 (s1669 - 1))) fun y1749 =>
    Option.bind (M.s_l8Less y1748.Priority y1749.Irq y1690.Priority y1690.Irq) fun r1750 =>
    some (!r1750))
    else some false) fun o1744 =>
    bif o1744 then some (.inr (.inr false))
    else (Option.bind (whileM (σ := Int) (ρ := (Unit) ⊕ (Bool)) (fun s1773 =>
      bif decide (s1773 < s1669) then (Option.bind (gxIdx x1352 s1773) fun y1785 =>
      bif y1785.Irq == y1690.Irq then some (.inr (.inr false))
      else some (.inl (w64 (s1773 + 1))))
      else some (.inr (.inl ()))) gxFuel 0) fun out1780 => Sum.elim (fun (o1783 : Unit) =>
    some (.inl (w64 (s1669 + 1)))) (fun r => some (.inr (.inr r))) out1780)))
    else some (.inr (.inl ()))) gxFuel 0) fun out1676 => Sum.elim (fun (o1679 : Unit) =>
  Option.bind (α := Bool) (Option.bind (M.s_l8Good x1347) fun r2059 =>
  bif r2059 then some (decide ((x1352.length : Int) ≤ 8))
  else some false) fun o2056 =>
  some o2056) (fun r => some r) out1676
def M.s_l8Free (x2087 : List Slot) : Option (Int) :=
  Option.bind (whileM (σ := Int) (ρ := (Unit) ⊕ (Int)) (fun s2098 =>
    bif decide (s2098 < (x2087.length : Int)) then (Option.bind (gxIdx x2087 s2098) fun y2110 =>
    bif y2110.State == 0 then some (.inr (.inr s2098))
    else some (.inl (w64 (s2098 + 1))))
    else some (.inr (.inl ()))) gxFuel 0) fun out2105 => Sum.elim (fun (o2108 : Unit) =>
  some (-1)) (fun r => some r) out2105
def M.s_l8Best (x2121 : List Slot) (x2126 : Bool) : Option (Int) :=
  Option.bind (whileM (σ := Int × Int) (ρ := Int) (fun s2519 =>
    bif decide (s2519.2 < (x2121.length : Int)) then (Option.bind (α := Int) (Option.bind (gxIdx x2121 s2519.2) fun y2628 =>
    bif y2628.State != 1 then some s2519.1
    else (Option.bind (α := Bool) (bif decide (s2519.1 < 0) then some true
    else (bif x2126 then (Option.bind (gxIdx x2121 s2519.1) fun y2678 =>
    Option.bind (gxIdx x2121 s2519.1) fun y2679 =>
    Option.bind (M.s_l8Less y2628.Priority y2628.Irq y2678.Priority y2679.Irq) fun r2680 =>
    bif r2680 then some true
    else (bif !x2126 then (Option.bind (gxIdx x2121 s2519.1) fun y2688 =>
    Option.bind (gxIdx x2121 s2519.1) fun y2689 =>
    Option.bind (M.s_l8Less y2688.Priority y2689.Irq y2628.Priority y2628.Irq) fun r2690 =>
    some r2690)
    else some false))
    else (bif !x2126 then (Option.bind (gxIdx x2121 s2519.1) fun y2699 =>
    Option.bind (gxIdx x2121 s2519.1) fun y2700 =>
    Option.bind (M.s_l8Less y2699.Priority y2700.Irq y2628.Priority y2628.Irq) fun r2701 =>
    some r2701)
    else some false))) fun o2671 =>
    Option.bind (α := Int) (bif o2671 then some s2519.2
    else some s2519.1) fun o2714 =>
    some o2714)) fun o2625 =>
    some (.inl (o2625, w64 (s2519.2 + 1))))
    else some (.inr s2519.1)) gxFuel ((-1), 0)) fun out2526 =>
  some out2526
def M.s_l9Settled (x2073 : Queue) : Option (Bool) :=
  bif (x2073.Waiting.length : Int) == 0 then some true
  else (Option.bind (M.s_l8Free x2073.Slots) fun r2116 =>
  bif decide (r2116 ≥ 0) then some false
  else (Option.bind (M.s_l8Best x2073.Slots false) fun r2730 =>
  Option.bind (α := Bool) (bif decide (r2730 < 0) then some true
  else (Option.bind (gxIdx x2073.Slots r2730) fun y2753 =>
  Option.bind (gxIdx x2073.Slots r2730) fun y2754 =>
  Option.bind (gxIdx x2073.Waiting 0) fun y2755 =>
  Option.bind (gxIdx x2073.Waiting 0) fun y2756 =>
  Option.bind (M.s_l8Less y2753.Priority y2754.Irq y2755.Priority y2756.Irq) fun r2757 =>
  some r2757)) fun o2747 =>
  some o2747))
def M.s_l9Good (x1334 : Queue) : Option (Bool) :=
  Option.bind (α := Bool) (Option.bind (M.s_l9Waiting x1334.Slots x1334.Waiting) fun r2774 =>
  bif r2774 then (Option.bind (M.s_l9Settled x1334) fun r2779 =>
  some r2779)
  else some false) fun o2771 =>
  some o2771
def M.s_l1Put (x2841 : List Int) (x2847 : Int) : Option ((List Int)) :=
  Option.bind (whileM (σ := Int) (ρ := Int) (fun s2877 =>
    Option.bind (α := Bool) (bif decide (s2877 < (x2841.length : Int)) then (Option.bind (gxIdx x2841 s2877) fun y2894 =>
    some (decide (y2894 < x2847)))
    else some false) fun o2890 =>
    bif o2890 then some (.inl (w64 (s2877 + 1)))
    else some (.inr s2877)) gxFuel 0) fun out2884 =>
  Option.bind (α := Bool) (bif decide (out2884 < (x2841.length : Int)) then (Option.bind (gxIdx x2841 out2884) fun y2910 =>
  some (y2910 == x2847))
  else some false) fun o2906 =>
  bif o2906 then some x2841
  else (Option.bind (gxSlice x2841 0 out2884) fun ys2923 =>
  Option.bind (gxApp 8 ([] : List Int) ys2923) fun ap2925 =>
  Option.bind (gxApp 8 ap2925 [x2847]) fun ap2936 =>
  Option.bind (gxSlice x2841 out2884 (x2841.length : Int)) fun ys2942 =>
  Option.bind (gxApp 8 ap2936 ys2942) fun ap2991 =>
  some ap2991)
def M.s_l8Active (x2808 : List Slot) : Option ((List Int)) :=
  Option.bind (whileM (σ := List Int × Int) (ρ := List Int) (fun s3084 =>
    bif decide (s3084.2 < (x2808.length : Int)) then (Option.bind (α := Bool) (Option.bind (gxIdx x2808 s3084.2) fun y3112 =>
    bif y3112.State == 2 then some true
    else (Option.bind (gxIdx x2808 s3084.2) fun y3114 =>
    some (y3114.State == 3))) fun o3109 =>
    Option.bind (α := List Int) (bif o3109 then (Option.bind (gxIdx x2808 s3084.2) fun y3139 =>
    Option.bind (M.s_l1Put s3084.1 y3139.Irq) fun r3140 =>
    some r3140)
    else some s3084.1) fun o3130 =>
    some (.inl (o3130, w64 (s3084.2 + 1))))
    else some (.inr s3084.1)) gxFuel (([] : List Int), 0)) fun out3091 =>
  some out3091
def M.s_l1Has (x3168 : List Int) (x3173 : Int) : Option (Bool) :=
  Option.bind (whileM (σ := Int) (ρ := (Unit) ⊕ (Bool)) (fun s3180 =>
    bif decide (s3180 < (x3168.length : Int)) then (Option.bind (gxIdx x3168 s3180) fun y3192 =>
    bif y3192 == x3173 then some (.inr (.inr true))
    else some (.inl (w64 (s3180 + 1))))
    else some (.inr (.inl ()))) gxFuel 0) fun out3187 => Sum.elim (fun (o3190 : Unit) =>
  some false) (fun r => some r) out3187
def M.s_l10Level (x3241 : Queue) (x3250 : Int) : Option (Int) :=
  Option.bind (M.s_l8Find x3241.Slots x3250) fun r3255 =>
  Option.bind (gxIdx x3241.Slots r3255) fun y3259 =>
  some y3259.Priority
def M.s_l10Good (x1312 : Interface) : Option (Bool) :=
  Option.bind (α := Bool) (Option.bind (M.s_l1In x1312.Mask 0 16) fun r2794 =>
  bif !r2794 then some true
  else (Option.bind (M.s_l9Good (⟨x1312.Queue.Slots, x1312.Queue.Waiting⟩ : Queue)) fun r2799 =>
  some (!r2799))) fun o2791 =>
  bif o2791 then some false
  else (Option.bind (M.s_l8Active x1312.Queue.Slots) fun r3157 =>
  Option.bind (whileM (σ := Int) (ρ := (Unit) ⊕ (Bool)) (fun s3379 =>
    bif decide (s3379 < (x1312.Stack.length : Int)) then (Option.bind (α := Bool) (Option.bind (gxIdx x1312.Stack s3379) fun y3411 =>
    Option.bind (M.s_l1Has r3157 y3411) fun r3412 =>
    bif !r3412 then some true
    else (Option.bind (gxSlice x1312.Stack 0 s3379) fun ys3419 =>
    Option.bind (gxIdx x1312.Stack s3379) fun y3421 =>
    Option.bind (M.s_l1Has ys3419 y3421) fun r3422 =>
    some r3422)) fun o3408 =>
    bif o3408 then some (.inr (.inr false))
    else (Option.bind (α := Bool) (bif decide (s3379 > 0) then (Option.bind (gxIdx x1312.Stack (w64 (s3379 - 1))) fun y3452 =>
    Option.bind (M.s_l10Level (⟨x1312.Queue.Slots, x1312.Queue.Waiting⟩ : Queue) y3452) fun r3453 =>
    Option.bind (gxIdx x1312.Stack s3379) fun y3457 =>
    Option.bind (M.s_l10Level (⟨x1312.Queue.Slots, x1312.Queue.Waiting⟩ : Queue) y3457) fun r3458 =>
    some (decide (r3453 ≤ r3458)))
    else some false) fun o3448 =>
    bif o3448 then some (.inr (.inr false))
    else some (.inl (w64 (s3379 + 1)))))
    else some (.inr (.inl ()))) gxFuel 0) fun out3386 => Sum.elim (fun (o3389 : Unit) =>
  some ((x1312.Stack.length : Int) == (r3157.length : Int))) (fun r => some r) out3386)
def M.s_l21Queue (x3488 : List Route) (x3493 : Queue) (x3502 : Int) : Option (Bool) :=
  Option.bind (whileM (σ := Int) (ρ := (Unit) ⊕ (Bool)) (fun s3591 =>
    bif decide (s3591 < (x3493.Slots.length : Int)) then (Option.bind (gxIdx x3493.Slots s3591) fun y3603 =>
    Option.bind (α := Bool) (bif y3603.State == 3 then some true
    else (bif y3603.State != 0 then (Option.bind (gxIdx x3488 y3603.Irq) fun y3630 =>
    bif y3630.Target != x3502 then some true
    else (Option.bind (gxIdx x3488 y3603.Irq) fun y3634 =>
    some (y3634.Priority != y3603.Priority)))
    else some false)) fun o3623 =>
    bif o3623 then some (.inr (.inr false))
    else some (.inl (w64 (s3591 + 1))))
    else some (.inr (.inl ()))) gxFuel 0) fun out3598 => Sum.elim (fun (o3601 : Unit) =>
  Option.bind (whileM (σ := Int) (ρ := (Unit) ⊕ (Bool)) (fun s3708 =>
    bif decide (s3708 < (x3493.Waiting.length : Int)) then (Option.bind (gxIdx x3493.Waiting s3708) fun y3720 =>
    Option.bind (α := Bool) (Option.bind (gxIdx x3488 y3720.Irq) fun y3737 =>
    bif y3737.Target != x3502 then some true
    else (Option.bind (gxIdx x3488 y3720.Irq) fun y3741 =>
    some (y3741.Priority != y3720.Priority))) fun o3734 =>
    bif o3734 then some (.inr (.inr false))
    else some (.inl (w64 (s3708 + 1))))
    else some (.inr (.inl ()))) gxFuel 0) fun out3715 => Sum.elim (fun (o3718 : Unit) =>
  some true) (fun r => some r) out3715) (fun r => some r) out3598
def M.s_l21Good (x1112 : Machine) : Option (Bool) :=
  Option.bind (α := Bool) (Option.bind (M.s_l21Routes x1112.Routes (x1112.Cpus.length : Int)) fun r1290 =>
  bif !r1290 then some true
  else (bif (x1112.Enabled.length : Int) != 8 then some true
  else some ((x1112.Raised.length : Int) != 8))) fun o1287 =>
  bif o1287 then some false
  else (Option.bind (whileM (σ := Int) (ρ := (Unit) ⊕ (Bool)) (fun s3863 =>
    bif decide (s3863 < (x1112.Cpus.length : Int)) then (Option.bind (α := Bool) (Option.bind (gxIdx x1112.Cpus s3863) fun y3907 =>
    Option.bind (M.s_l10Good (⟨y3907.Mask, y3907.Stack, (⟨y3907.Queue.Slots, y3907.Queue.Waiting⟩ : Queue)⟩ : Interface)) fun r3917 =>
    bif !r3917 then some true
    else (Option.bind (gxIdx x1112.Cpus s3863) fun y3924 =>
    Option.bind (M.s_l21Queue x1112.Routes (⟨y3924.Queue.Slots, y3924.Queue.Waiting⟩ : Queue) s3863) fun r3930 =>
    some (!r3930))) fun o3904 =>
    bif o3904 then some (.inr (.inr false))
    else some (.inl (w64 (s3863 + 1))))
    else some (.inr (.inl ()))) gxFuel 0) fun out3870 => Sum.elim (fun (o3873 : Unit) =>
  some true) (fun r => some r) out3870)
def M.s_IsMachine (x1091 : Machine) : Option (Bool) :=
  Option.bind (M.s_l21Good x1091) fun r3945 =>
  some r3945
def M.i_inside (x4019 : Int) (x4020 : Int) (x4021 : Int) : Option (Bool) :=
  Option.bind (α := Bool) (bif decide (x4019 ≥ x4020) then some (decide (x4019 ≤ x4021))
  else some false) fun o4023 =>
  some o4023
def M.i_isPriority (x4066 : Int) : Option (Bool) :=
  Option.bind (M.i_inside x4066 0 15) fun r4067 =>
  some r4067
def M.i_areRoutes_1 (x4057 : Route) (x4058 : Int) : Option (Bool) :=
  Option.bind (α := Bool) (Option.bind (M.i_isPriority x4057.Priority) fun r4083 =>
  bif !r4083 then some true
  else (Option.bind (M.i_inside x4057.Target 0 (w64 (x4058 - 1))) fun r4088 =>
  some (!r4088))) fun o4080 =>
  some o4080
def M.slices_IndexFunc_159__i_areRoutes_1 (x4046 : List Route) (x4051 : Int) : Option (Int) :=
  Option.bind (whileM (σ := Int) (ρ := (Unit) ⊕ (Int)) (fun s4108 =>
    bif decide (s4108 < (x4046.length : Int)) then (Option.bind (gxIdx x4046 s4108) fun y4120 =>
    Option.bind (M.i_areRoutes_1 y4120 x4051) fun r4121 =>
    bif r4121 then some (.inr (.inr s4108))
    else some (.inl (w64 (s4108 + 1))))
    else some (.inr (.inl ()))) gxFuel 0) fun out4115 => Sum.elim (fun (o4118 : Unit) =>
  some (-1)) (fun r => some r) out4115
def M.slices_ContainsFunc_109__i_areRoutes_1 (x4037 : List Route) (x4042 : Int) : Option (Bool) :=
  Option.bind (M.slices_IndexFunc_159__i_areRoutes_1 x4037 x4042) fun r4130 =>
  some (decide (r4130 ≥ 0))
def M.i_areRoutes (x4009 : List Route) (x4014 : Int) : Option (Bool) :=
  Option.bind (α := Bool) (Option.bind (M.i_inside x4014 1 2) fun r4141 =>
  bif r4141 then (bif (x4009.length : Int) == 8 then (Option.bind (M.slices_ContainsFunc_109__i_areRoutes_1 x4009 x4014) fun r4147 =>
  some (!r4147))
  else some false)
  else some false) fun o4138 =>
  some o4138
def M.i_isMask (x4212 : Int) : Option (Bool) :=
  Option.bind (M.i_inside x4212 0 16) fun r4213 =>
  some r4213
def M.i_isIrq (x4268 : Int) : Option (Bool) :=
  Option.bind (M.i_inside x4268 0 7) fun r4269 =>
  some r4269
def M.i_findSlot_1 (x4310 : Slot) (x4311 : Int) : Option (Bool) :=
  Option.bind (α := Bool) (bif x4310.State != 0 then some (x4310.Irq == x4311)
  else some false) fun o4320 =>
  some o4320
def M.slices_IndexFunc_210__i_findSlot_1 (x4299 : List Slot) (x4304 : Int) : Option (Int) :=
  Option.bind (whileM (σ := Int) (ρ := (Unit) ⊕ (Int)) (fun s4340 =>
    bif decide (s4340 < (x4299.length : Int)) then (Option.bind (gxIdx x4299 s4340) fun y4352 =>
    Option.bind (M.i_findSlot_1 y4352 x4304) fun r4353 =>
    bif r4353 then some (.inr (.inr s4340))
    else some (.inl (w64 (s4340 + 1))))
    else some (.inr (.inl ()))) gxFuel 0) fun out4347 => Sum.elim (fun (o4350 : Unit) =>
  some (-1)) (fun r => some r) out4347
def M.i_findSlot (x4289 : List Slot) (x4294 : Int) : Option (Int) :=
  Option.bind (M.slices_IndexFunc_210__i_findSlot_1 x4289 x4294) fun r4362 =>
  some r4362
def M.i_AreSlots (x4245 : List Slot) : Option (Bool) :=
  bif (x4245.length : Int) != 4 then some false
  else (Option.bind (whileM (σ := Int) (ρ := (Unit) ⊕ (Bool)) (fun s4485 =>
    bif decide (s4485 < (x4245.length : Int)) then (Option.bind (gxIdx x4245 s4485) fun y4497 =>
    bif y4497.State == 0 then (bif !((y4497.State == 0) && ((y4497.Irq == 0) && ((y4497.Priority == 0) && true))) then some (.inr (.inr false))
    else some (.inl (w64 (s4485 + 1))))
    else (Option.bind (α := Bool) (Option.bind (M.i_inside y4497.State 1 3) fun r4538 =>
    bif !r4538 then some true
    else (Option.bind (M.i_isIrq y4497.Irq) fun r4545 =>
    bif !r4545 then some true
    else (Option.bind (M.i_isPriority y4497.Priority) fun r4552 =>
    bif !r4552 then some true
    else (Option.bind (gxSlice x4245 0 s4485) fun ys4559 =>
    Option.bind (M.i_findSlot ys4559 y4497.Irq) fun r4561 =>
    some (decide (r4561 ≥ 0)))))) fun o4535 =>
    bif o4535 then some (.inr (.inr false))
    else some (.inl (w64 (s4485 + 1)))))
    else some (.inr (.inl ()))) gxFuel 0) fun out4492 => Sum.elim (fun (o4495 : Unit) =>
  some true) (fun r => some r) out4492)
def M.i_waiterIndex_1 (x4633 : Waiter) (x4634 : Int) : Option (Bool) :=
  some (x4633.Irq == x4634)
def M.slices_IndexFunc_166__i_waiterIndex_1 (x4622 : List Waiter) (x4627 : Int) : Option (Int) :=
  Option.bind (whileM (σ := Int) (ρ := (Unit) ⊕ (Int)) (fun s4654 =>
    bif decide (s4654 < (x4622.length : Int)) then (Option.bind (gxIdx x4622 s4654) fun y4666 =>
    Option.bind (M.i_waiterIndex_1 y4666 x4627) fun r4667 =>
    bif r4667 then some (.inr (.inr s4654))
    else some (.inl (w64 (s4654 + 1))))
    else some (.inr (.inl ()))) gxFuel 0) fun out4661 => Sum.elim (fun (o4664 : Unit) =>
  some (-1)) (fun r => some r) out4661
def M.i_waiterIndex (x4612 : List Waiter) (x4617 : Int) : Option (Int) :=
  Option.bind (M.slices_IndexFunc_166__i_waiterIndex_1 x4612 x4617) fun r4676 =>
  some r4676
def M.cmp_isNaN_222 (x4703 : Int) : Option (Bool) :=
  some (x4703 != x4703)
def M.cmp_Compare_170 (x4701 : Int) (x4702 : Int) : Option (Int) :=
  Option.bind (M.cmp_isNaN_222 x4701) fun r4704 =>
  Option.bind (M.cmp_isNaN_222 x4702) fun r4708 =>
  bif r4704 then (bif r4708 then some 0
  else some (-1))
  else (bif r4708 then some 1
  else (bif decide (x4701 < x4702) then some (-1)
  else (bif decide (x4701 > x4702) then some 1
  else some 0)))
def M.cmp_Or_169 (x4769 : List Int) : Option (Int) :=
  Option.bind (whileM (σ := Int) (ρ := (Unit) ⊕ (Int)) (fun s4780 =>
    bif decide (s4780 < (x4769.length : Int)) then (Option.bind (gxIdx x4769 s4780) fun y4792 =>
    bif y4792 != 0 then some (.inr (.inr y4792))
    else some (.inl (w64 (s4780 + 1))))
    else some (.inr (.inl ()))) gxFuel 0) fun out4787 => Sum.elim (fun (o4790 : Unit) =>
  some 0) (fun r => some r) out4787
def M.i_compareUrgency (x4689 : Waiter) (x4690 : Waiter) : Option (Int) :=
  Option.bind (M.cmp_Compare_170 x4689.Priority x4690.Priority) fun r4717 =>
  Option.bind (M.cmp_Compare_170 x4689.Irq x4690.Irq) fun r4758 =>
  Option.bind (M.cmp_Or_169 [r4717, r4758]) fun r4798 =>
  some r4798
def M.i_areParts (x4235 : List Slot) (x4240 : List Waiter) : Option (Bool) :=
  Option.bind (M.i_AreSlots x4235) fun r4576 =>
  bif !r4576 then some false
  else (Option.bind (whileM (σ := Int) (ρ := (Unit) ⊕ (Bool)) (fun s4954 =>
    bif decide (s4954 < (x4240.length : Int)) then (Option.bind (gxIdx x4240 s4954) fun y4966 =>
    Option.bind (α := Bool) (Option.bind (M.i_isIrq y4966.Irq) fun r5016 =>
    bif !r5016 then some true
    else (Option.bind (M.i_isPriority y4966.Priority) fun r5023 =>
    bif !r5023 then some true
    else (Option.bind (M.i_findSlot x4235 y4966.Irq) fun r5030 =>
    bif decide (r5030 ≥ 0) then some true
    else (Option.bind (gxSlice x4240 0 s4954) fun ys5037 =>
    Option.bind (M.i_waiterIndex ys5037 y4966.Irq) fun r5039 =>
    bif decide (r5039 ≥ 0) then some true
    else (bif decide (s4954 > 0) then (Option.bind (gxIdx x4240 (w64 (s4954 - 1))) fun y5047 =>
    Option.bind (M.i_compareUrgency y5047 y4966) fun r5048 =>
    some (decide (r5048 ≥ 0)))
    else some false))))) fun o5013 =>
    bif o5013 then some (.inr (.inr false))
    else some (.inl (w64 (s4954 + 1))))
    else some (.inr (.inl ()))) gxFuel 0) fun out4961 => Sum.elim (fun (o4964 : Unit) =>
  some true) (fun r => some r) out4961)
def M.i_waiterOf (x5102 : Slot) : Option (Waiter) :=
  some (⟨x5102.Irq, x5102.Priority⟩ : Waiter)
def M.i_pendingSlot (x5084 : List Slot) (x5089 : Bool) : Option (Int) :=
  Option.bind (whileM (σ := Int × Int) (ρ := Int) (fun s5233 =>
    bif decide (s5233.2 < (x5084.length : Int)) then (Option.bind (gxIdx x5084 s5233.2) fun y5245 =>
    Option.bind (α := Bool) (bif y5245.State == 1 then (bif decide (s5233.1 < 0) then some true
    else (Option.bind (M.i_waiterOf y5245) fun r5280 =>
    Option.bind (gxIdx x5084 s5233.1) fun y5284 =>
    Option.bind (M.i_waiterOf y5284) fun r5285 =>
    Option.bind (M.i_compareUrgency r5280 r5285) fun r5289 =>
    some ((decide (r5289 < 0)) == x5089)))
    else some false) fun o5273 =>
    Option.bind (α := Int) (bif o5273 then some s5233.2
    else some s5233.1) fun o5302 =>
    some (.inl (o5302, w64 (s5233.2 + 1))))
    else some (.inr s5233.1)) gxFuel ((-1), 0)) fun out5240 =>
  some out5240
def M.i_firstEmpty_1 (x5330 : Slot) : Option (Bool) :=
  some (x5330.State == 0)
def M.slices_IndexFunc_210__i_firstEmpty_1 (x5323 : List Slot) : Option (Int) :=
  Option.bind (whileM (σ := Int) (ρ := (Unit) ⊕ (Int)) (fun s5347 =>
    bif decide (s5347 < (x5323.length : Int)) then (Option.bind (gxIdx x5323 s5347) fun y5359 =>
    Option.bind (M.i_firstEmpty_1 y5359) fun r5360 =>
    bif r5360 then some (.inr (.inr s5347))
    else some (.inl (w64 (s5347 + 1))))
    else some (.inr (.inl ()))) gxFuel 0) fun out5354 => Sum.elim (fun (o5357 : Unit) =>
  some (-1)) (fun r => some r) out5354
def M.i_firstEmpty (x5318 : List Slot) : Option (Int) :=
  Option.bind (M.slices_IndexFunc_210__i_firstEmpty_1 x5318) fun r5369 =>
  some r5369
def M.i_isSettled (x5070 : Queue) : Option (Bool) :=
  bif (x5070.Waiting.length : Int) == 0 then some true
  else (Option.bind (M.i_pendingSlot x5070.Slots false) fun r5314 =>
  Option.bind (α := Bool) (Option.bind (M.i_firstEmpty x5070.Slots) fun r5398 =>
  bif decide (r5398 < 0) then (bif decide (r5314 < 0) then some true
  else (Option.bind (gxIdx x5070.Waiting 0) fun y5406 =>
  Option.bind (gxIdx x5070.Slots r5314) fun y5407 =>
  Option.bind (M.i_waiterOf y5407) fun r5408 =>
  Option.bind (M.i_compareUrgency y5406 r5408) fun r5412 =>
  some (decide (r5412 > 0))))
  else some false) fun o5395 =>
  some o5395)
def M.i_IsQueue (x4222 : Queue) : Option (Bool) :=
  Option.bind (α := Bool) (Option.bind (M.i_areParts x4222.Slots x4222.Waiting) fun r5431 =>
  bif r5431 then (Option.bind (M.i_isSettled x4222) fun r5436 =>
  some r5436)
  else some false) fun o5428 =>
  some o5428
def M.i_copyInts (x5465 : List Int) : Option ((List Int)) :=
  Option.bind (gxApp 8 ([] : List Int) x5465) fun ap5482 =>
  some ap5482
def M.slices_Sort_114 (x5504 : List Int) : Option ((List Int)) :=
  bif decide (x5504.length < 4611686018427387904) then some (gxSortI x5504)
  else none
def M.i_isActive (x5543 : Slot) : Option (Bool) :=
  Option.bind (α := Bool) (bif x5543.State == 2 then some true
  else some (x5543.State == 3)) fun o5549 =>
  some o5549
def M.i_activeIrqs (x5518 : List Slot) : Option ((List Int)) :=
  Option.bind (whileM (σ := List Int × Int) (ρ := List Int) (fun s5666 =>
    bif decide (s5666.2 < (x5518.length : Int)) then (Option.bind (gxIdx x5518 s5666.2) fun y5688 =>
    Option.bind (M.i_isActive y5688) fun r5695 =>
    Option.bind (α := List Int) (bif r5695 then (Option.bind (gxApp 8 s5666.1 [y5688.Irq]) fun ap5731 =>
    some ap5731)
    else some s5666.1) fun o5715 =>
    some (.inl (o5715, w64 (s5666.2 + 1))))
    else some (.inr s5666.1)) gxFuel (([] : List Int), 0)) fun out5673 =>
  Option.bind (M.slices_Sort_114 out5673) fun r5747 =>
  some r5747
def M.slices_Equal_115 (x5763 : List Int) (x5768 : List Int) : Option (Bool) :=
  bif (x5763.length : Int) != (x5768.length : Int) then some false
  else (Option.bind (whileM (σ := Int) (ρ := (Unit) ⊕ (Bool)) (fun s5786 =>
    bif decide (s5786 < (x5763.length : Int)) then (Option.bind (gxIdx x5763 s5786) fun y5798 =>
    Option.bind (gxIdx x5768 s5786) fun y5799 =>
    bif y5798 != y5799 then some (.inr (.inr false))
    else some (.inl (w64 (s5786 + 1))))
    else some (.inr (.inl ()))) gxFuel 0) fun out5793 => Sum.elim (fun (o5796 : Unit) =>
  some true) (fun r => some r) out5793)
def M.i_priorityIn (x5814 : List Slot) (x5819 : Int) : Option (Int) :=
  Option.bind (M.i_findSlot x5814 x5819) fun r5820 =>
  Option.bind (gxIdx x5814 r5820) fun y5824 =>
  some y5824.Priority
def M.i_IsInterface (x4195 : Interface) : Option (Bool) :=
  Option.bind (α := Bool) (Option.bind (M.i_isMask x4195.Mask) fun r5451 =>
  bif !r5451 then some true
  else (Option.bind (M.i_IsQueue (⟨x4195.Queue.Slots, x4195.Queue.Waiting⟩ : Queue)) fun r5456 =>
  some (!r5456))) fun o5448 =>
  bif o5448 then some false
  else (Option.bind (M.i_copyInts x4195.Stack) fun r5490 =>
  Option.bind (M.slices_Sort_114 r5490) fun r5511 =>
  Option.bind (M.i_activeIrqs x4195.Queue.Slots) fun r5754 =>
  Option.bind (M.slices_Equal_115 r5511 r5754) fun r5807 =>
  bif !r5807 then some false
  else (Option.bind (whileM (σ := Int) (ρ := (Unit) ⊕ (Bool)) (fun s5851 =>
    bif decide (s5851 < (x4195.Stack.length : Int)) then (Option.bind (gxIdx x4195.Stack s5851) fun y5863 =>
    Option.bind (M.i_priorityIn x4195.Queue.Slots y5863) fun r5864 =>
    Option.bind (gxIdx x4195.Stack (w64 (s5851 - 1))) fun y5868 =>
    Option.bind (M.i_priorityIn x4195.Queue.Slots y5868) fun r5869 =>
    bif decide (r5864 ≥ r5869) then some (.inr (.inr false))
    else some (.inl (w64 (s5851 + 1))))
    else some (.inr (.inl ()))) gxFuel 1) fun out5858 => Sum.elim (fun (o5861 : Unit) =>
  some true) (fun r => some r) out5858))
def M.slices_Clone_118 (x5916 : List Waiter) : Option ((List Waiter)) :=
  Option.bind (gxApp 16 ([] : List Waiter) x5916) fun ap5937 =>
  some ap5937
def M.i_fitsRoutes_1 (x6203 : Waiter) (x6204 : List Route) (x6212 : Int) : Option (Bool) :=
  Option.bind (gxIdx x6204 x6203.Irq) fun y6220 =>
  some (!((y6220.Priority == x6203.Priority) && ((y6220.Target == x6212) && true)))
def M.slices_IndexFunc_166__i_fitsRoutes_1 (x6184 : List Waiter) (x6189 : List Route) (x6197 : Int) : Option (Int) :=
  Option.bind (whileM (σ := Int) (ρ := (Unit) ⊕ (Int)) (fun s6235 =>
    bif decide (s6235 < (x6184.length : Int)) then (Option.bind (gxIdx x6184 s6235) fun y6247 =>
    Option.bind (M.i_fitsRoutes_1 y6247 x6189 x6197) fun r6248 =>
    bif r6248 then some (.inr (.inr s6235))
    else some (.inl (w64 (s6235 + 1))))
    else some (.inr (.inl ()))) gxFuel 0) fun out6242 => Sum.elim (fun (o6245 : Unit) =>
  some (-1)) (fun r => some r) out6242
def M.slices_ContainsFunc_120__i_fitsRoutes_1 (x6167 : List Waiter) (x6172 : List Route) (x6180 : Int) : Option (Bool) :=
  Option.bind (M.slices_IndexFunc_166__i_fitsRoutes_1 x6167 x6172 x6180) fun r6257 =>
  some (decide (r6257 ≥ 0))
def M.i_fitsRoutes (x5885 : List Route) (x5890 : Int) (x5891 : Interface) : Option (Bool) :=
  Option.bind (M.slices_Clone_118 x5891.Queue.Waiting) fun r5945 =>
  Option.bind (whileM (σ := List Waiter × Int) (ρ := (List Waiter) ⊕ (Bool)) (fun s6081 =>
    bif decide (s6081.2 < (x5891.Queue.Slots.length : Int)) then (Option.bind (gxIdx x5891.Queue.Slots s6081.2) fun y6103 =>
    bif y6103.State == 3 then some (.inr (.inr false))
    else (Option.bind (α := List Waiter) (bif y6103.State != 0 then (Option.bind (M.i_waiterOf y6103) fun r6140 =>
    Option.bind (gxApp 16 s6081.1 [r6140]) fun ap6151 =>
    some ap6151)
    else some s6081.1) fun o6131 =>
    some (.inl (o6131, w64 (s6081.2 + 1)))))
    else some (.inr (.inl s6081.1))) gxFuel (r5945, 0)) fun out6088 => Sum.elim (fun (o6096 : List Waiter) =>
  Option.bind (M.slices_ContainsFunc_120__i_fitsRoutes_1 o6096 x5885 x5890) fun r6261 =>
  some (!r6261)) (fun r => some r) out6088
def M.i_IsMachine (x3988 : Machine) : Option (Bool) :=
  Option.bind (α := Bool) (Option.bind (M.i_areRoutes x3988.Routes (x3988.Cpus.length : Int)) fun r4164 =>
  bif !r4164 then some true
  else (bif (x3988.Enabled.length : Int) != 8 then some true
  else some ((x3988.Raised.length : Int) != 8))) fun o4161 =>
  bif o4161 then some false
  else (Option.bind (whileM (σ := Int) (ρ := (Unit) ⊕ (Bool)) (fun s6332 =>
    bif decide (s6332 < (x3988.Cpus.length : Int)) then (Option.bind (gxIdx x3988.Cpus s6332) fun y6344 =>
    Option.bind (α := Bool) (Option.bind (M.i_IsInterface (⟨y6344.Mask, y6344.Stack, (⟨y6344.Queue.Slots, y6344.Queue.Waiting⟩ : Queue)⟩ : Interface)) fun r6375 =>
    bif !r6375 then some true
    else (Option.bind (M.i_fitsRoutes x3988.Routes s6332 (⟨y6344.Mask, y6344.Stack, (⟨y6344.Queue.Slots, y6344.Queue.Waiting⟩ : Queue)⟩ : Interface)) fun r6380 =>
    some (!r6380))) fun o6372 =>
    bif o6372 then some (.inr (.inr false))
    else some (.inl (w64 (s6332 + 1))))
    else some (.inr (.inl ()))) gxFuel 0) fun out6339 => Sum.elim (fun (o6342 : Unit) =>
  some true) (fun r => some r) out6339)
def M.l_eqRoute (x6494 : Route) (x6495 : Route) : Option (Bool) :=
  bif x6494.Priority != x6495.Priority then some false
  else (bif x6494.Target != x6495.Target then some false
  else some true)
def M.l_eqRouteS (x6480 : List Route) (x6485 : List Route) : Option (Bool) :=
  bif (x6480.length : Int) != (x6485.length : Int) then some false
  else (Option.bind (whileM (σ := Int) (ρ := (Unit) ⊕ (Bool)) (fun s6523 =>
    bif decide (s6523 < (x6480.length : Int)) then (Option.bind (gxIdx x6480 s6523) fun y6535 =>
    Option.bind (gxIdx x6485 s6523) fun y6536 =>
    Option.bind (M.l_eqRoute y6535 y6536) fun r6537 =>
    bif !r6537 then some (.inr (.inr false))
    else some (.inl (w64 (s6523 + 1))))
    else some (.inr (.inl ()))) gxFuel 0) fun out6530 => Sum.elim (fun (o6533 : Unit) =>
  some true) (fun r => some r) out6530)
def M.l_eqBoolS (x6553 : List Bool) (x6558 : List Bool) : Option (Bool) :=
  bif (x6553.length : Int) != (x6558.length : Int) then some false
  else (Option.bind (whileM (σ := Int) (ρ := (Unit) ⊕ (Bool)) (fun s6576 =>
    bif decide (s6576 < (x6553.length : Int)) then (Option.bind (gxIdx x6553 s6576) fun y6588 =>
    Option.bind (gxIdx x6558 s6576) fun y6589 =>
    bif !(y6588 == y6589) then some (.inr (.inr false))
    else some (.inl (w64 (s6576 + 1))))
    else some (.inr (.inl ()))) gxFuel 0) fun out6583 => Sum.elim (fun (o6586 : Unit) =>
  some true) (fun r => some r) out6583)
def M.l_eqIntS (x6674 : List Int) (x6679 : List Int) : Option (Bool) :=
  bif (x6674.length : Int) != (x6679.length : Int) then some false
  else (Option.bind (whileM (σ := Int) (ρ := (Unit) ⊕ (Bool)) (fun s6697 =>
    bif decide (s6697 < (x6674.length : Int)) then (Option.bind (gxIdx x6674 s6697) fun y6709 =>
    Option.bind (gxIdx x6679 s6697) fun y6710 =>
    bif y6709 != y6710 then some (.inr (.inr false))
    else some (.inl (w64 (s6697 + 1))))
    else some (.inr (.inl ()))) gxFuel 0) fun out6704 => Sum.elim (fun (o6707 : Unit) =>
  some true) (fun r => some r) out6704)
def M.l_eqSlot (x6763 : Slot) (x6764 : Slot) : Option (Bool) :=
  bif x6763.State != x6764.State then some false
  else (bif x6763.Irq != x6764.Irq then some false
  else (bif x6763.Priority != x6764.Priority then some false
  else some true))
def M.l_eqSlotS (x6749 : List Slot) (x6754 : List Slot) : Option (Bool) :=
  bif (x6749.length : Int) != (x6754.length : Int) then some false
  else (Option.bind (whileM (σ := Int) (ρ := (Unit) ⊕ (Bool)) (fun s6793 =>
    bif decide (s6793 < (x6749.length : Int)) then (Option.bind (gxIdx x6749 s6793) fun y6805 =>
    Option.bind (gxIdx x6754 s6793) fun y6806 =>
    Option.bind (M.l_eqSlot y6805 y6806) fun r6807 =>
    bif !r6807 then some (.inr (.inr false))
    else some (.inl (w64 (s6793 + 1))))
    else some (.inr (.inl ()))) gxFuel 0) fun out6800 => Sum.elim (fun (o6803 : Unit) =>
  some true) (fun r => some r) out6800)
def M.l_eqWaiter (x6837 : Waiter) (x6838 : Waiter) : Option (Bool) :=
  bif x6837.Irq != x6838.Irq then some false
  else (bif x6837.Priority != x6838.Priority then some false
  else some true)
def M.l_eqWaiterS (x6823 : List Waiter) (x6828 : List Waiter) : Option (Bool) :=
  bif (x6823.length : Int) != (x6828.length : Int) then some false
  else (Option.bind (whileM (σ := Int) (ρ := (Unit) ⊕ (Bool)) (fun s6866 =>
    bif decide (s6866 < (x6823.length : Int)) then (Option.bind (gxIdx x6823 s6866) fun y6878 =>
    Option.bind (gxIdx x6828 s6866) fun y6879 =>
    Option.bind (M.l_eqWaiter y6878 y6879) fun r6880 =>
    bif !r6880 then some (.inr (.inr false))
    else some (.inl (w64 (s6866 + 1))))
    else some (.inr (.inl ()))) gxFuel 0) fun out6873 => Sum.elim (fun (o6876 : Unit) =>
  some true) (fun r => some r) out6873)
def M.l_eqQueue (x6723 : Queue) (x6732 : Queue) : Option (Bool) :=
  Option.bind (M.l_eqSlotS x6723.Slots x6732.Slots) fun r6818 =>
  bif !r6818 then some false
  else (Option.bind (M.l_eqWaiterS x6723.Waiting x6732.Waiting) fun r6891 =>
  bif !r6891 then some false
  else some true)
def M.l_eqInterface (x6639 : Interface) (x6652 : Interface) : Option (Bool) :=
  bif x6639.Mask != x6652.Mask then some false
  else (Option.bind (M.l_eqIntS x6639.Stack x6652.Stack) fun r6718 =>
  bif !r6718 then some false
  else (Option.bind (M.l_eqQueue (⟨x6639.Queue.Slots, x6639.Queue.Waiting⟩ : Queue) (⟨x6652.Queue.Slots, x6652.Queue.Waiting⟩ : Queue)) fun r6896 =>
  bif !r6896 then some false
  else some true))
def M.l_eqInterfaceS (x6607 : List Interface) (x6612 : List Interface) : Option (Bool) :=
  bif (x6607.length : Int) != (x6612.length : Int) then some false
  else (Option.bind (whileM (σ := Int) (ρ := (Unit) ⊕ (Bool)) (fun s6936 =>
    bif decide (s6936 < (x6607.length : Int)) then (Option.bind (gxIdx x6607 s6936) fun y6948 =>
    Option.bind (gxIdx x6612 s6936) fun y6958 =>
    Option.bind (M.l_eqInterface (⟨y6948.Mask, y6948.Stack, (⟨y6948.Queue.Slots, y6948.Queue.Waiting⟩ : Queue)⟩ : Interface) (⟨y6958.Mask, y6958.Stack, (⟨y6958.Queue.Slots, y6958.Queue.Waiting⟩ : Queue)⟩ : Interface)) fun r6968 =>
    bif !r6968 then some (.inr (.inr false))
    else some (.inl (w64 (s6936 + 1))))
    else some (.inr (.inl ()))) gxFuel 0) fun out6943 => Sum.elim (fun (o6946 : Unit) =>
  some true) (fun r => some r) out6943)
def M.l_eqMachine (x6438 : Machine) (x6455 : Machine) : Option (Bool) :=
  Option.bind (M.l_eqRouteS x6438.Routes x6455.Routes) fun r6548 =>
  bif !r6548 then some false
  else (Option.bind (M.l_eqBoolS x6438.Enabled x6455.Enabled) fun r6597 =>
  bif !r6597 then some false
  else (Option.bind (M.l_eqBoolS x6438.Raised x6455.Raised) fun r6602 =>
  bif !r6602 then some false
  else (Option.bind (M.l_eqInterfaceS x6438.Cpus x6455.Cpus) fun r6979 =>
  bif !r6979 then some false
  else some true)))
def M.l_FnExactIsMachine (x1 : Machine) : Option (Bool) :=
  Option.bind (M.l_szMachine x1 1048576) fun r221 =>
  bif decide (r221 < 0) then some true
  else (Option.bind (M.l_toMachine x1) fun r1066 =>
  Option.bind (M.s_IsMachine r1066) fun r3949 =>
  Option.bind (M.l_toMachine x1) fun r3953 =>
  Option.bind (M.i_IsMachine r3953) fun r6393 =>
  bif !(r6393 == r3949) then some false
  else (Option.bind (M.l_toMachine x1) fun r6400 =>
  Option.bind (M.l_eqMachine r3953 r6400) fun r6984 =>
  bif !r6984 then some false
  else some true))
def M.s_l21Cpu (x7068 : Machine) (x7085 : Int) : Option (Bool) :=
  Option.bind (α := Bool) (Option.bind (M.s_l21Good x7068) fun r7102 =>
  bif r7102 then (Option.bind (M.s_l1In x7085 0 (w64 ((x7068.Cpus.length : Int) - 1))) fun r7107 =>
  some r7107)
  else some false) fun o7099 =>
  some o7099
def M.s_l1Own (x7137 : List Int) : Option ((List Int)) :=
  Option.bind (gxApp 8 ([] : List Int) x7137) fun ap7154 =>
  some ap7154
def M.s_RunningOn (x7041 : Machine) (x7058 : Int) : Option ((List Int) × Bool) :=
  Option.bind (M.s_l21Cpu x7041 x7058) fun r7115 =>
  bif !r7115 then some (([] : List Int), false)
  else (Option.bind (gxIdx x7041.Cpus x7058) fun y7127 =>
  Option.bind (M.s_l1Own y7127.Stack) fun r7162 =>
  some (r7162, true))
def M.i_Machine_hasCpu (x7247 : Machine) (x7264 : Int) : Option (Bool) :=
  Option.bind (M.i_inside x7264 0 (w64 ((x7247.Cpus.length : Int) - 1))) fun r7269 =>
  some r7269
def M.i_RunningOn (x7215 : Machine) (x7232 : Int) : Option ((List Int) × Bool) :=
  Option.bind (α := Bool) (Option.bind (M.i_IsMachine x7215) fun r7280 =>
  bif !r7280 then some true
  else (Option.bind (M.i_Machine_hasCpu x7215 x7232) fun r7285 =>
  some (!r7285))) fun o7277 =>
  bif o7277 then some (([] : List Int), false)
  else (Option.bind (gxIdx x7215.Cpus x7232) fun y7295 =>
  Option.bind (M.i_copyInts y7295.Stack) fun r7305 =>
  some (r7305, true))
def M.l_markRouteS (x7418 : List Route) (x7424 : Int) : Option (Int × (List Route)) :=
  Option.bind (whileM (σ := Int × Int × List Route) (ρ := Int × List Route) (fun s7455 =>
    bif decide (s7455.2.1 < (s7455.2.2.length : Int)) then (Option.bind (gxIdx s7455.2.2 s7455.2.1) fun y7473 =>
    Option.bind (gxIdx (s7455.2.2.set s7455.2.1.toNat (⟨s7455.1, y7473.Target⟩ : Route)) s7455.2.1) fun y7479 =>
    some (.inl (w64 ((w64 (s7455.1 + 1)) + 1), w64 (s7455.2.1 + 1), ((s7455.2.2.set s7455.2.1.toNat (⟨s7455.1, y7473.Target⟩ : Route)).set s7455.2.1.toNat (⟨(⟨s7455.1, y7473.Target⟩ : Route).Priority, w64 (s7455.1 + 1)⟩ : Route)))))
    else some (.inr (s7455.1, s7455.2.2))) gxFuel (x7424, 0, x7418)) fun out7462 =>
  some (out7462.1, out7462.2)
def M.l_markBoolS (x7497 : List Bool) (x7503 : Int) : Option (Int × (List Bool)) :=
  Option.bind (whileM (σ := Int × Int × List Bool) (ρ := Int × List Bool) (fun s7520 =>
    bif decide (s7520.2.1 < (s7520.2.2.length : Int)) then (Option.bind (gxIdx s7520.2.2 s7520.2.1) fun y7538 =>
    some (.inl (w64 (s7520.1 + 1), w64 (s7520.2.1 + 1), (s7520.2.2.set s7520.2.1.toNat ((s7520.1.tmod 3) == 0)))))
    else some (.inr (s7520.1, s7520.2.2))) gxFuel (x7503, 0, x7497)) fun out7527 =>
  some (out7527.1, out7527.2)
def M.l_markIntS (x7600 : List Int) (x7606 : Int) : Option (Int × (List Int)) :=
  Option.bind (whileM (σ := Int × Int × List Int) (ρ := Int × List Int) (fun s7623 =>
    bif decide (s7623.2.1 < (s7623.2.2.length : Int)) then (Option.bind (gxIdx s7623.2.2 s7623.2.1) fun y7641 =>
    some (.inl (w64 (s7623.1 + 1), w64 (s7623.2.1 + 1), (s7623.2.2.set s7623.2.1.toNat s7623.1))))
    else some (.inr (s7623.1, s7623.2.2))) gxFuel (x7606, 0, x7600)) fun out7630 =>
  some (out7630.1, out7630.2)
def M.l_markSlotS (x7702 : List Slot) (x7708 : Int) : Option (Int × (List Slot)) :=
  Option.bind (whileM (σ := Int × Int × List Slot) (ρ := Int × List Slot) (fun s7751 =>
    bif decide (s7751.2.1 < (s7751.2.2.length : Int)) then (Option.bind (gxIdx s7751.2.2 s7751.2.1) fun y7769 =>
    Option.bind (gxIdx (s7751.2.2.set s7751.2.1.toNat (⟨s7751.1, y7769.Irq, y7769.Priority⟩ : Slot)) s7751.2.1) fun y7775 =>
    Option.bind (gxIdx ((s7751.2.2.set s7751.2.1.toNat (⟨s7751.1, y7769.Irq, y7769.Priority⟩ : Slot)).set s7751.2.1.toNat (⟨(⟨s7751.1, y7769.Irq, y7769.Priority⟩ : Slot).State, w64 (s7751.1 + 1), (⟨s7751.1, y7769.Irq, y7769.Priority⟩ : Slot).Priority⟩ : Slot)) s7751.2.1) fun y7781 =>
    some (.inl (w64 ((w64 ((w64 (s7751.1 + 1)) + 1)) + 1), w64 (s7751.2.1 + 1), (((s7751.2.2.set s7751.2.1.toNat (⟨s7751.1, y7769.Irq, y7769.Priority⟩ : Slot)).set s7751.2.1.toNat (⟨(⟨s7751.1, y7769.Irq, y7769.Priority⟩ : Slot).State, w64 (s7751.1 + 1), (⟨s7751.1, y7769.Irq, y7769.Priority⟩ : Slot).Priority⟩ : Slot)).set s7751.2.1.toNat (⟨(⟨(⟨s7751.1, y7769.Irq, y7769.Priority⟩ : Slot).State, w64 (s7751.1 + 1), (⟨s7751.1, y7769.Irq, y7769.Priority⟩ : Slot).Priority⟩ : Slot).State, (⟨(⟨s7751.1, y7769.Irq, y7769.Priority⟩ : Slot).State, w64 (s7751.1 + 1), (⟨s7751.1, y7769.Irq, y7769.Priority⟩ : Slot).Priority⟩ : Slot).Irq, w64 ((w64 (s7751.1 + 1)) + 1)⟩ : Slot)))))
    else some (.inr (s7751.1, s7751.2.2))) gxFuel (x7708, 0, x7702)) fun out7758 =>
  some (out7758.1, out7758.2)
def M.l_markWaiterS (x7843 : List Waiter) (x7849 : Int) : Option (Int × (List Waiter)) :=
  Option.bind (whileM (σ := Int × Int × List Waiter) (ρ := Int × List Waiter) (fun s7880 =>
    bif decide (s7880.2.1 < (s7880.2.2.length : Int)) then (Option.bind (gxIdx s7880.2.2 s7880.2.1) fun y7898 =>
    Option.bind (gxIdx (s7880.2.2.set s7880.2.1.toNat (⟨s7880.1, y7898.Priority⟩ : Waiter)) s7880.2.1) fun y7904 =>
    some (.inl (w64 ((w64 (s7880.1 + 1)) + 1), w64 (s7880.2.1 + 1), ((s7880.2.2.set s7880.2.1.toNat (⟨s7880.1, y7898.Priority⟩ : Waiter)).set s7880.2.1.toNat (⟨(⟨s7880.1, y7898.Priority⟩ : Waiter).Irq, w64 (s7880.1 + 1)⟩ : Waiter)))))
    else some (.inr (s7880.1, s7880.2.2))) gxFuel (x7849, 0, x7843)) fun out7887 =>
  some (out7887.1, out7887.2)
def M.l_markInterfaceS (x7563 : List Interface) (x7570 : Int) : Option (Int × (List Interface)) :=
  Option.bind (whileM (σ := Int × Int × List Interface) (ρ := Int × List Interface) (fun s8133 =>
    bif decide (s8133.2.1 < (s8133.2.2.length : Int)) then (Option.bind (gxIdx s8133.2.2 s8133.2.1) fun y8153 =>
    Option.bind (gxIdx (s8133.2.2.set s8133.2.1.toNat (⟨s8133.1, y8153.Stack, (⟨y8153.Queue.Slots, y8153.Queue.Waiting⟩ : Queue)⟩ : Interface)) s8133.2.1) fun y8169 =>
    Option.bind (M.l_markIntS y8169.Stack (w64 (s8133.1 + 1))) fun r8179 =>
    Option.bind (gxIdx ((s8133.2.2.set s8133.2.1.toNat (⟨s8133.1, y8153.Stack, (⟨y8153.Queue.Slots, y8153.Queue.Waiting⟩ : Queue)⟩ : Interface)).set s8133.2.1.toNat (⟨y8169.Mask, r8179.2, (⟨y8169.Queue.Slots, y8169.Queue.Waiting⟩ : Queue)⟩ : Interface)) s8133.2.1) fun y8221 =>
    Option.bind (M.l_markSlotS y8221.Queue.Slots r8179.1) fun r8231 =>
    Option.bind (gxIdx (((s8133.2.2.set s8133.2.1.toNat (⟨s8133.1, y8153.Stack, (⟨y8153.Queue.Slots, y8153.Queue.Waiting⟩ : Queue)⟩ : Interface)).set s8133.2.1.toNat (⟨y8169.Mask, r8179.2, (⟨y8169.Queue.Slots, y8169.Queue.Waiting⟩ : Queue)⟩ : Interface)).set s8133.2.1.toNat (⟨y8221.Mask, y8221.Stack, (⟨r8231.2, y8221.Queue.Waiting⟩ : Queue)⟩ : Interface)) s8133.2.1) fun y8273 =>
    Option.bind (M.l_markWaiterS y8273.Queue.Waiting r8231.1) fun r8283 =>
    some (.inl (r8283.1, w64 (s8133.2.1 + 1), ((((s8133.2.2.set s8133.2.1.toNat (⟨s8133.1, y8153.Stack, (⟨y8153.Queue.Slots, y8153.Queue.Waiting⟩ : Queue)⟩ : Interface)).set s8133.2.1.toNat (⟨y8169.Mask, r8179.2, (⟨y8169.Queue.Slots, y8169.Queue.Waiting⟩ : Queue)⟩ : Interface)).set s8133.2.1.toNat (⟨y8221.Mask, y8221.Stack, (⟨r8231.2, y8221.Queue.Waiting⟩ : Queue)⟩ : Interface)).set s8133.2.1.toNat (⟨y8273.Mask, y8273.Stack, (⟨y8273.Queue.Slots, r8283.2⟩ : Queue)⟩ : Interface)))))
    else some (.inr (s8133.1, s8133.2.2))) gxFuel (x7570, 0, x7563)) fun out8140 =>
  some (out8140.1, out8140.2)
def M.l_markMachine (x7386 : Machine) (x7408 : Int) : Option (Int × (List Route) × (List Bool) × (List Bool) × (List Interface)) :=
  Option.bind (M.l_markRouteS x7386.Routes x7408) fun r7489 =>
  Option.bind (M.l_markBoolS x7386.Enabled r7489.1) fun r7547 =>
  Option.bind (M.l_markBoolS x7386.Raised r7547.1) fun r7555 =>
  Option.bind (M.l_markInterfaceS x7386.Cpus r7555.1) fun r8329 =>
  some (r8329.1, r7489.2, r7547.2, r7555.2, r8329.2)
def M.l_heldIntS (x8383 : List Int) (x8388 : Int) : Option (Int) :=
  Option.bind (whileM (σ := Int × Int) (ρ := (Int) ⊕ (Int)) (fun s8395 =>
    bif decide (s8395.2 < (x8383.length : Int)) then (Option.bind (gxIdx x8383 s8395.2) fun y8407 =>
    bif y8407 != s8395.1 then some (.inr (.inr (-1)))
    else some (.inl (w64 (s8395.1 + 1), w64 (s8395.2 + 1))))
    else some (.inr (.inl s8395.1))) gxFuel (x8388, 0)) fun out8402 => Sum.elim (fun (o8405 : Int) =>
  some o8405) (fun r => some r) out8402
def M.l_FnExactRunningOn (x6989 : Machine) (x7006 : Int) : Option (Bool) :=
  Option.bind (M.l_szMachine x6989 1048576) fun r7011 =>
  bif decide (r7011 < 0) then some true
  else (Option.bind (M.l_toMachine x6989) fun r7016 =>
  Option.bind (M.s_RunningOn r7016 x7006) fun r7171 =>
  Option.bind (M.l_toMachine x6989) fun r7180 =>
  Option.bind (M.i_RunningOn r7180 x7006) fun r7314 =>
  Option.bind (α := Bool) (Option.bind (M.l_eqIntS r7314.1 r7171.1) fun r7331 =>
  bif !r7331 then some true
  else some (!(r7314.2 == r7171.2))) fun o7328 =>
  bif o7328 then some false
  else (Option.bind (M.l_toMachine x6989) fun r7343 =>
  Option.bind (M.l_eqMachine r7180 r7343) fun r7381 =>
  bif !r7381 then some false
  else (Option.bind (M.l_markMachine r7180 1) fun r8338 =>
  Option.bind (α := Bool) (bif decide (r8338.1 < 0) then some true
  else (Option.bind (M.l_eqIntS r7314.1 r7171.1) fun r8366 =>
  bif !r8366 then some true
  else some (!(r7314.2 == r7171.2)))) fun o8362 =>
  bif o8362 then some false
  else (Option.bind (M.l_markIntS r7314.1 1) fun r8376 =>
  Option.bind (M.l_heldIntS r8376.2 1) fun r8413 =>
  bif decide (r8413 < 0) then some false
  else (bif r8413 != r8376.1 then some false
  else (Option.bind (M.l_toMachine x6989) fun r8419 =>
  Option.bind (M.i_RunningOn r8419 x7006) fun r8444 =>
  Option.bind (α := Bool) (Option.bind (M.l_eqIntS r8444.1 r7171.1) fun r8461 =>
  bif !r8461 then some true
  else some (!(r8444.2 == r7171.2))) fun o8458 =>
  bif o8458 then some false
  else (Option.bind (M.l_heldIntS r8376.2 1) fun r8471 =>
  bif decide (r8471 < 0) then some false
  else (bif r8471 != r8376.1 then some false
  else some true))))))))
def M.s_l9Wait (x8704 : List Waiter) (x8709 : Waiter) : Option ((List Waiter)) :=
  Option.bind (whileM (σ := Int) (ρ := Int) (fun s8779 =>
    Option.bind (α := Bool) (bif decide (s8779 < (x8704.length : Int)) then (Option.bind (gxIdx x8704 s8779) fun y8805 =>
    Option.bind (gxIdx x8704 s8779) fun y8806 =>
    Option.bind (M.s_l8Less y8805.Priority y8806.Irq x8709.Priority x8709.Irq) fun r8807 =>
    some r8807)
    else some false) fun o8801 =>
    bif o8801 then some (.inl (w64 (s8779 + 1)))
    else some (.inr s8779)) gxFuel 0) fun out8786 =>
  Option.bind (gxSlice x8704 0 out8786) fun ys8831 =>
  Option.bind (gxApp 16 ([] : List Waiter) ys8831) fun ap8833 =>
  Option.bind (gxApp 16 ap8833 [x8709]) fun ap8844 =>
  Option.bind (gxSlice x8704 out8786 (x8704.length : Int)) fun ys8850 =>
  Option.bind (gxApp 16 ap8844 ys8850) fun ap8899 =>
  some ap8899
def M.s_l9Pending (x8653 : Queue) : Option ((List Int)) :=
  Option.bind (gxApp 16 ([] : List Waiter) x8653.Waiting) fun ap8678 =>
  Option.bind (whileM (σ := List Waiter × Int) (ρ := List Waiter) (fun s8992 =>
    bif decide (s8992.2 < (x8653.Slots.length : Int)) then (Option.bind (gxIdx x8653.Slots s8992.2) fun y9014 =>
    Option.bind (α := Bool) (bif y9014.State == 1 then some true
    else some (y9014.State == 3)) fun o9022 =>
    Option.bind (α := List Waiter) (bif o9022 then (Option.bind (M.s_l9Wait s8992.1 (⟨y9014.Irq, y9014.Priority⟩ : Waiter)) fun r9049 =>
    some r9049)
    else some s8992.1) fun o9040 =>
    some (.inl (o9040, w64 (s8992.2 + 1))))
    else some (.inr s8992.1)) gxFuel (ap8678, 0)) fun out8999 =>
  Option.bind (whileM (σ := List Int × Int) (ρ := List Int) (fun s9112 =>
    bif decide (s9112.2 < (out8999.length : Int)) then (Option.bind (gxIdx out8999 s9112.2) fun y9134 =>
    Option.bind (gxApp 8 s9112.1 [y9134.Irq]) fun ap9142 =>
    some (.inl (ap9142, w64 (s9112.2 + 1))))
    else some (.inr s9112.1)) gxFuel (([] : List Int), 0)) fun out9119 =>
  some out9119
def M.s_l21Idle (x8554 : Machine) : Option (Bool) :=
  Option.bind (whileM (σ := Int) (ρ := (Unit) ⊕ (Bool)) (fun s8605 =>
    bif decide (s8605 < 8) then (Option.bind (α := Bool) (Option.bind (gxIdx x8554.Enabled s8605) fun y8623 =>
    bif y8623 then (Option.bind (gxIdx x8554.Raised s8605) fun y8625 =>
    some y8625)
    else some false) fun o8620 =>
    bif o8620 then some (.inr (.inr false))
    else some (.inl (w64 (s8605 + 1))))
    else some (.inr (.inl ()))) gxFuel 0) fun out8612 => Sum.elim (fun (o8615 : Unit) =>
  Option.bind (whileM (σ := Int) (ρ := (Unit) ⊕ (Bool)) (fun s9258 =>
    bif decide (s9258 < (x8554.Cpus.length : Int)) then (Option.bind (α := Bool) (Option.bind (gxIdx x8554.Cpus s9258) fun y9299 =>
    bif decide ((y9299.Stack.length : Int) > 0) then some true
    else (Option.bind (gxIdx x8554.Cpus s9258) fun y9310 =>
    Option.bind (M.s_l9Pending (⟨y9310.Queue.Slots, y9310.Queue.Waiting⟩ : Queue)) fun r9316 =>
    some (decide ((r9316.length : Int) > 0)))) fun o9296 =>
    bif o9296 then some (.inr (.inr false))
    else some (.inl (w64 (s9258 + 1))))
    else some (.inr (.inl ()))) gxFuel 0) fun out9265 => Sum.elim (fun (o9268 : Unit) =>
  some true) (fun r => some r) out9265) (fun r => some r) out8612
def M.s_IsIdle (x8528 : Machine) : Option (Bool × Bool) :=
  Option.bind (M.s_l21Good x8528) fun r8549 =>
  bif !r8549 then some (false, false)
  else (Option.bind (M.s_l21Idle x8528) fun r9334 =>
  some (r9334, true))
def M.math_bits_Len (x9781 : Int) : Option (Int) :=
  bif decide (0 ≤ x9781) && decide (x9781 ≤ 18446744073709551615) then some ((Lib.bitLen x9781.toNat : Nat) : Int)
  else none
def M.slices_insertionSortCmpFunc_214__i_compareUrgency (x9838 : List Waiter) (x9844 : Int) (x9845 : Int) : Option ((List Waiter)) :=
  Option.bind (whileM (σ := Int × List Waiter) (ρ := List Waiter) (fun s10566 =>
    bif decide (s10566.1 < x9845) then (Option.bind (whileM (σ := Int × List Waiter) (ρ := List Waiter) (fun s10809 =>
      Option.bind (α := Bool) (bif decide (s10809.1 > x9844) then (Option.bind (gxIdx s10809.2 s10809.1) fun y10841 =>
      Option.bind (gxIdx s10809.2 (w64 (s10809.1 - 1))) fun y10842 =>
      Option.bind (M.i_compareUrgency y10841 y10842) fun r10843 =>
      some (decide (r10843 < 0)))
      else some false) fun o10837 =>
      bif o10837 then (Option.bind (gxIdx s10809.2 (w64 (s10809.1 - 1))) fun y10858 =>
      Option.bind (gxIdx s10809.2 s10809.1) fun y10859 =>
      Option.bind (gxIdx s10809.2 s10809.1) fun y10860 =>
      Option.bind (gxIdx (s10809.2.set s10809.1.toNat y10858) (w64 (s10809.1 - 1))) fun y10932 =>
      some (.inl (w64 (s10809.1 - 1), ((s10809.2.set s10809.1.toNat y10858).set (w64 (s10809.1 - 1)).toNat y10859))))
      else some (.inr s10809.2)) gxFuel (s10566.1, s10566.2)) fun out10816 =>
    some (.inl (w64 (s10566.1 + 1), out10816)))
    else some (.inr s10566.2)) gxFuel (w64 (x9844 + 1), x9838)) fun out10573 =>
  some out10573
def M.slices_pdqsortCmpFunc_168__i_compareUrgency (x10946 : List Waiter) (x10952 : Int) (x10953 : Int) (x10954 : Int) : Option ((List Waiter)) :=
  Option.bind (whileM (σ := Unit) (ρ := (List Waiter)) (fun s10972 =>
    bif decide ((w64 (x10953 - x10952)) ≤ 12) then (Option.bind (M.slices_insertionSortCmpFunc_214__i_compareUrgency x10946 x10952 x10953) fun r10983 =>
    some (.inr r10983))
    else (none)) gxFuel ()) fun out10979 => some out10979
def M.slices_SortFunc_128__i_compareUrgency (x10995 : List Waiter) : Option ((List Waiter)) :=
  Option.bind (M.math_bits_Len (IntKind.u64.wrap (x10995.length : Int))) fun r11002 =>
  Option.bind (M.slices_pdqsortCmpFunc_168__i_compareUrgency x10995 0 (x10995.length : Int) r11002) fun r11006 =>
  some r11006
def M.i_pendingIrqs (x9499 : Queue) : Option ((List Int)) :=
  Option.bind (gxApp 16 ([] : List Waiter) x9499.Waiting) fun ap9524 =>
  Option.bind (whileM (σ := List Waiter × Int) (ρ := List Waiter) (fun s9682 =>
    bif decide (s9682.2 < (x9499.Slots.length : Int)) then (Option.bind (gxIdx x9499.Slots s9682.2) fun y9704 =>
    Option.bind (α := Bool) (bif y9704.State == 1 then some true
    else some (y9704.State == 3)) fun o9712 =>
    Option.bind (α := List Waiter) (bif o9712 then (Option.bind (M.i_waiterOf y9704) fun r9749 =>
    Option.bind (gxApp 16 s9682.1 [r9749]) fun ap9760 =>
    some ap9760)
    else some s9682.1) fun o9740 =>
    some (.inl (o9740, w64 (s9682.2 + 1))))
    else some (.inr s9682.1)) gxFuel (ap9524, 0)) fun out9689 =>
  Option.bind (M.slices_SortFunc_128__i_compareUrgency out9689) fun r11013 =>
  Option.bind (whileM (σ := List Int × Int) (ρ := List Int) (fun s11071 =>
    bif decide (s11071.2 < (r11013.length : Int)) then (Option.bind (gxIdx r11013 s11071.2) fun y11093 =>
    Option.bind (gxApp 8 s11071.1 [y11093.Irq]) fun ap11107 =>
    some (.inl (ap11107, w64 (s11071.2 + 1))))
    else some (.inr s11071.1)) gxFuel (([] : List Int), 0)) fun out11078 =>
  some out11078
def M.i_IsIdle_1 (x9481 : Interface) : Option (Bool) :=
  Option.bind (α := Bool) (bif decide ((x9481.Stack.length : Int) > 0) then some true
  else (Option.bind (M.i_pendingIrqs (⟨x9481.Queue.Slots, x9481.Queue.Waiting⟩ : Queue)) fun r11132 =>
  some (decide ((r11132.length : Int) > 0)))) fun o11128 =>
  some o11128
def M.slices_IndexFunc_127__i_IsIdle_1 (x9465 : List Interface) : Option (Int) :=
  Option.bind (whileM (σ := Int) (ρ := (Unit) ⊕ (Int)) (fun s11166 =>
    bif decide (s11166 < (x9465.length : Int)) then (Option.bind (gxIdx x9465 s11166) fun y11178 =>
    Option.bind (M.i_IsIdle_1 (⟨y11178.Mask, y11178.Stack, (⟨y11178.Queue.Slots, y11178.Queue.Waiting⟩ : Queue)⟩ : Interface)) fun r11188 =>
    bif r11188 then some (.inr (.inr s11166))
    else some (.inl (w64 (s11166 + 1))))
    else some (.inr (.inl ()))) gxFuel 0) fun out11173 => Sum.elim (fun (o11176 : Unit) =>
  some (-1)) (fun r => some r) out11173
def M.slices_ContainsFunc_72__i_IsIdle_1 (x9460 : List Interface) : Option (Bool) :=
  Option.bind (M.slices_IndexFunc_127__i_IsIdle_1 x9460) fun r11197 =>
  some (decide (r11197 ≥ 0))
def M.i_IsIdle (x9377 : Machine) : Option (Bool × Bool) :=
  Option.bind (M.i_IsMachine x9377) fun r9398 =>
  bif !r9398 then some (false, false)
  else (Option.bind (whileM (σ := Int) (ρ := (Unit) ⊕ (Bool × Bool)) (fun s9431 =>
    bif decide (s9431 < (x9377.Raised.length : Int)) then (Option.bind (gxIdx x9377.Raised s9431) fun y9443 =>
    Option.bind (α := Bool) (bif y9443 then (Option.bind (gxIdx x9377.Enabled s9431) fun y9450 =>
    some y9450)
    else some false) fun o9446 =>
    bif o9446 then some (.inr (.inr (false, true)))
    else some (.inl (w64 (s9431 + 1))))
    else some (.inr (.inl ()))) gxFuel 0) fun out9438 => Sum.elim (fun (o9441 : Unit) =>
  Option.bind (M.slices_ContainsFunc_72__i_IsIdle_1 x9377.Cpus) fun r11201 =>
  some (!r11201, true)) (fun r => some r) out9438)
def M.l_FnExactIsIdle (x8477 : Machine) : Option (Bool) :=
  Option.bind (M.l_szMachine x8477 1048576) fun r8498 =>
  bif decide (r8498 < 0) then some true
  else (Option.bind (M.l_toMachine x8477) fun r8503 =>
  Option.bind (M.s_IsIdle r8503) fun r9338 =>
  Option.bind (M.l_toMachine x8477) fun r9342 =>
  Option.bind (M.i_IsIdle r9342) fun r11205 =>
  Option.bind (α := Bool) (bif !(r11205.1 == r9338.1) then some true
  else some (!(r11205.2 == r9338.2))) fun o11210 =>
  bif o11210 then some false
  else (Option.bind (M.l_toMachine x8477) fun r11221 =>
  Option.bind (M.l_eqMachine r9342 r11221) fun r11259 =>
  bif !r11259 then some false
  else some true))
def M.s_PendingOn (x11316 : Machine) (x11333 : Int) : Option ((List Int) × Bool) :=
  Option.bind (M.s_l21Cpu x11316 x11333) fun r11343 =>
  bif !r11343 then some (([] : List Int), false)
  else (Option.bind (gxIdx x11316.Cpus x11333) fun y11355 =>
  Option.bind (M.s_l9Pending (⟨y11355.Queue.Slots, y11355.Queue.Waiting⟩ : Queue)) fun r11365 =>
  some (r11365, true))
def M.i_PendingOn (x11418 : Machine) (x11435 : Int) : Option ((List Int) × Bool) :=
  Option.bind (α := Bool) (Option.bind (M.i_IsMachine x11418) fun r11457 =>
  bif !r11457 then some true
  else (Option.bind (M.i_Machine_hasCpu x11418 x11435) fun r11462 =>
  some (!r11462))) fun o11454 =>
  bif o11454 then some (([] : List Int), false)
  else (Option.bind (gxIdx x11418.Cpus x11435) fun y11472 =>
  Option.bind (M.i_pendingIrqs (⟨y11472.Queue.Slots, y11472.Queue.Waiting⟩ : Queue)) fun r11482 =>
  some (r11482, true))
def M.l_FnExactPendingOn (x11264 : Machine) (x11281 : Int) : Option (Bool) :=
  Option.bind (M.l_szMachine x11264 1048576) fun r11286 =>
  bif decide (r11286 < 0) then some true
  else (Option.bind (M.l_toMachine x11264) fun r11291 =>
  Option.bind (M.s_PendingOn r11291 x11281) fun r11374 =>
  Option.bind (M.l_toMachine x11264) fun r11383 =>
  Option.bind (M.i_PendingOn r11383 x11281) fun r11491 =>
  Option.bind (α := Bool) (Option.bind (M.l_eqIntS r11491.1 r11374.1) fun r11508 =>
  bif !r11508 then some true
  else some (!(r11491.2 == r11374.2))) fun o11505 =>
  bif o11505 then some false
  else (Option.bind (M.l_toMachine x11264) fun r11520 =>
  Option.bind (M.l_eqMachine r11383 r11520) fun r11558 =>
  bif !r11558 then some false
  else (Option.bind (M.l_markMachine r11383 1) fun r11563 =>
  Option.bind (α := Bool) (bif decide (r11563.1 < 0) then some true
  else (Option.bind (M.l_eqIntS r11491.1 r11374.1) fun r11591 =>
  bif !r11591 then some true
  else some (!(r11491.2 == r11374.2)))) fun o11587 =>
  bif o11587 then some false
  else (Option.bind (M.l_markIntS r11491.1 1) fun r11601 =>
  Option.bind (M.l_heldIntS r11601.2 1) fun r11608 =>
  bif decide (r11608 < 0) then some false
  else (bif r11608 != r11601.1 then some false
  else (Option.bind (M.l_toMachine x11264) fun r11614 =>
  Option.bind (M.i_PendingOn r11614 x11281) fun r11639 =>
  Option.bind (α := Bool) (Option.bind (M.l_eqIntS r11639.1 r11374.1) fun r11656 =>
  bif !r11656 then some true
  else some (!(r11639.2 == r11374.2))) fun o11653 =>
  bif o11653 then some false
  else (Option.bind (M.l_heldIntS r11601.2 1) fun r11666 =>
  bif decide (r11666 < 0) then some false
  else (bif r11666 != r11601.1 then some false
  else some true))))))))
def M.s_l9Own (x12059 : Queue) : Option (Queue) :=
  Option.bind (gxApp 24 ([] : List Slot) x12059.Slots) fun ap12093 =>
  Option.bind (gxApp 16 ([] : List Waiter) x12059.Waiting) fun ap12135 =>
  some (⟨ap12093, ap12135⟩ : Queue)
def M.s_l10Own (x12015 : Interface) : Option (Interface) :=
  Option.bind (M.s_l1Own x12015.Stack) fun r12053 =>
  Option.bind (M.s_l9Own (⟨x12015.Queue.Slots, x12015.Queue.Waiting⟩ : Queue)) fun r12147 =>
  some (⟨x12015.Mask, r12053, r12147⟩ : Interface)
def M.s_l21Own (x11840 : Machine) : Option (Machine) :=
  Option.bind (gxApp 16 ([] : List Route) x11840.Routes) fun ap11893 =>
  Option.bind (gxApp 1 ([] : List Bool) x11840.Enabled) fun ap11904 =>
  Option.bind (gxApp 1 ([] : List Bool) x11840.Raised) fun ap11915 =>
  Option.bind (whileM (σ := Int × List Interface) (ρ := List Interface) (fun s12389 =>
    bif decide (s12389.1 < (x11840.Cpus.length : Int)) then (Option.bind (gxIdx x11840.Cpus s12389.1) fun y12415 =>
    Option.bind (M.s_l10Own (⟨y12415.Mask, y12415.Stack, (⟨y12415.Queue.Slots, y12415.Queue.Waiting⟩ : Queue)⟩ : Interface)) fun r12425 =>
    Option.bind (gxApp 80 s12389.2 [(⟨r12425.Mask, r12425.Stack, (⟨r12425.Queue.Slots, r12425.Queue.Waiting⟩ : Queue)⟩ : Interface)]) fun ap12491 =>
    some (.inl (w64 (s12389.1 + 1), ap12491)))
    else some (.inr s12389.2)) gxFuel (0, ([] : List Interface))) fun out12396 =>
  some (⟨ap11893, ap11904, ap11915, out12396⟩ : Machine)
def M.s_l8With (x12733 : List Slot) (x12738 : Int) (x12739 : Slot) : Option ((List Slot)) :=
  Option.bind (gxApp 24 ([] : List Slot) x12733) fun ap12756 =>
  Option.bind (gxIdx ap12756 x12738) fun y12764 =>
  some (ap12756.set x12738.toNat x12739)
def M.s_l8Put (x12696 : List Slot) (x12701 : Int) (x12702 : Int) : Option ((List Slot) × Bool) :=
  Option.bind (M.s_l8Find x12696 x12701) fun r12708 =>
  bif decide (r12708 ≥ 0) then (Option.bind (gxIdx x12696 r12708) fun y12713 =>
  Option.bind (α := Int) (bif y12713.State == 2 then some 3
  else some y12713.State) fun o12723 =>
  Option.bind (M.s_l8With x12696 r12708 (⟨o12723, y12713.Irq, y12713.Priority⟩ : Slot)) fun r12769 =>
  some (r12769, true))
  else (Option.bind (M.s_l8Free x12696) fun r12778 =>
  bif decide (r12778 < 0) then some (([] : List Slot), false)
  else (Option.bind (M.s_l8With x12696 r12778 (⟨1, x12701, x12702⟩ : Slot)) fun r12790 =>
  some (r12790, true)))
def M.s_l9Settle (x12810 : Queue) : Option (Queue) :=
  Option.bind (M.s_l9Own x12810) fun r12837 =>
  Option.bind (whileM (σ := List Slot × List Waiter) (ρ := List Slot × List Waiter) (fun s13293 =>
    Option.bind (M.s_l9Settled (⟨s13293.1, s13293.2⟩ : Queue)) fun r13324 =>
    bif !r13324 then (Option.bind (gxIdx s13293.2 0) fun y13329 =>
    Option.bind (gxSlice s13293.2 1 (s13293.2.length : Int)) fun ys13343 =>
    Option.bind (gxApp 16 ([] : List Waiter) ys13343) fun ap13345 =>
    Option.bind (M.s_l8Free s13293.1) fun r13353 =>
    Option.bind (α := List Waiter × Int) (bif decide (r13353 < 0) then (Option.bind (M.s_l8Best s13293.1 false) fun r13443 =>
    Option.bind (gxIdx s13293.1 r13443) fun y13449 =>
    Option.bind (gxIdx s13293.1 r13443) fun y13450 =>
    Option.bind (M.s_l9Wait ap13345 (⟨y13449.Irq, y13450.Priority⟩ : Waiter)) fun r13510 =>
    some (r13510, r13443))
    else some (ap13345, r13353)) fun o13434 =>
    Option.bind (M.s_l8With s13293.1 o13434.2 (⟨1, y13329.Irq, y13329.Priority⟩ : Slot)) fun r13523 =>
    some (.inl (r13523, o13434.1)))
    else some (.inr (s13293.1, s13293.2))) gxFuel (r12837.Slots, r12837.Waiting)) fun out13300 =>
  some (⟨out13300.1, out13300.2⟩ : Queue)
def M.s_l9Has (x13558 : List Waiter) (x13563 : Int) : Option (Int) :=
  Option.bind (whileM (σ := Int) (ρ := (Unit) ⊕ (Int)) (fun s13570 =>
    bif decide (s13570 < (x13558.length : Int)) then (Option.bind (gxIdx x13558 s13570) fun y13582 =>
    bif y13582.Irq == x13563 then some (.inr (.inr s13570))
    else some (.inl (w64 (s13570 + 1))))
    else some (.inr (.inl ()))) gxFuel 0) fun out13577 => Sum.elim (fun (o13580 : Unit) =>
  some (-1)) (fun r => some r) out13577
def M.s_l9Offer (x12662 : Queue) (x12671 : Int) (x12672 : Int) : Option (Queue) :=
  Option.bind (M.s_l8Find x12662.Slots x12671) fun r12691 =>
  bif decide (r12691 ≥ 0) then (Option.bind (M.s_l8Put x12662.Slots x12671 x12672) fun r12799 =>
  Option.bind (M.s_l9Settle (⟨r12799.1, x12662.Waiting⟩ : Queue)) fun r13542 =>
  some r13542)
  else (Option.bind (M.s_l9Has x12662.Waiting x12671) fun r13588 =>
  bif decide (r13588 ≥ 0) then (Option.bind (M.s_l9Settle x12662) fun r13593 =>
  some r13593)
  else (Option.bind (M.s_l9Wait x12662.Waiting (⟨x12671, x12672⟩ : Waiter)) fun r13611 =>
  Option.bind (M.s_l9Settle (⟨x12662.Slots, r13611⟩ : Queue)) fun r13655 =>
  some r13655))
def M.s_l10Raise (x12616 : Interface) (x12629 : Int) (x12630 : Int) : Option (Interface) :=
  Option.bind (M.s_l1Own x12616.Stack) fun r12656 =>
  Option.bind (M.s_l9Offer (⟨x12616.Queue.Slots, x12616.Queue.Waiting⟩ : Queue) x12629 x12630) fun r13671 =>
  some (⟨x12616.Mask, r12656, r13671⟩ : Interface)
def M.s_l21Sync (x11794 : Machine) : Option (Machine) :=
  Option.bind (M.s_l21Own x11794) fun r12516 =>
  Option.bind (whileM (σ := Int × List Bool × List Interface) (ρ := List Bool × List Interface) (fun s14290 =>
    bif decide (s14290.1 < 8) then (Option.bind (gxIdx x11794.Routes s14290.1) fun y14312 =>
    Option.bind (α := Bool) (Option.bind (gxIdx x11794.Enabled s14290.1) fun y14334 =>
    bif y14334 then (Option.bind (gxIdx x11794.Raised s14290.1) fun y14336 =>
    bif y14336 then (Option.bind (gxIdx x11794.Cpus y14312.Target) fun y14338 =>
    Option.bind (M.s_l1Has y14338.Stack s14290.1) fun r14348 =>
    some (!r14348))
    else some false)
    else some false) fun o14331 =>
    Option.bind (α := List Bool × List Interface) (bif o14331 then (Option.bind (gxIdx s14290.2.1 s14290.1) fun y14491 =>
    Option.bind (gxIdx s14290.2.2 y14312.Target) fun y14499 =>
    Option.bind (gxIdx x11794.Routes s14290.1) fun y14509 =>
    Option.bind (M.s_l10Raise (⟨y14499.Mask, y14499.Stack, (⟨y14499.Queue.Slots, y14499.Queue.Waiting⟩ : Queue)⟩ : Interface) s14290.1 y14509.Priority) fun r14510 =>
    Option.bind (gxIdx s14290.2.2 y14312.Target) fun y14594 =>
    some ((s14290.2.1.set s14290.1.toNat false), (s14290.2.2.set y14312.Target.toNat (⟨r14510.Mask, r14510.Stack, (⟨r14510.Queue.Slots, r14510.Queue.Waiting⟩ : Queue)⟩ : Interface))))
    else some (s14290.2.1, s14290.2.2)) fun o14482 =>
    some (.inl (w64 (s14290.1 + 1), o14482.1, o14482.2)))
    else some (.inr (s14290.2.1, s14290.2.2))) gxFuel (0, r12516.Raised, r12516.Cpus)) fun out14297 =>
  some (⟨r12516.Routes, r12516.Enabled, out14297.1, out14297.2⟩ : Machine)
def M.s_l10Running (x14878 : Interface) : Option (Int) :=
  bif decide ((x14878.Stack.length : Int) > 0) then (Option.bind (gxIdx x14878.Stack (w64 ((x14878.Stack.length : Int) - 1))) fun y14896 =>
  Option.bind (M.s_l10Level (⟨x14878.Queue.Slots, x14878.Queue.Waiting⟩ : Queue) y14896) fun r14897 =>
  some r14897)
  else some 16
def M.s_l1Least (x14904 : Int) (x14905 : Int) : Option (Int) :=
  bif decide (x14904 < x14905) then some x14904
  else some x14905
def M.l_toMachStep (x15018 : MachStep) : Option (MachStep) :=
  some x15018
def M.s_l21Step (x15098 : Machine) (x15115 : MachStep) : Option (Bool) :=
  Option.bind (M.s_l1In x15115.Cpu 0 (w64 ((x15098.Cpus.length : Int) - 1))) fun r15124 =>
  bif x15115.Kind == 1 then (Option.bind (α := Bool) (Option.bind (M.s_l6Irq x15115.Irq) fun r15138 =>
  bif r15138 then (bif x15115.Cpu == 0 then some (x15115.Value == 0)
  else some false)
  else some false) fun o15135 =>
  some o15135)
  else (bif x15115.Kind == 2 then (Option.bind (α := Bool) (bif x15115.Irq == 0 then (bif x15115.Cpu == 0 then some (x15115.Value == 0)
  else some false)
  else some false) fun o15151 =>
  some o15151)
  else (Option.bind (α := Bool) (bif x15115.Kind == 3 then some (x15115.Kind == 3)
  else some (x15115.Kind == 4)) fun o15161 =>
  bif o15161 then (Option.bind (α := Bool) (bif x15115.Irq == 0 then (bif r15124 then some (x15115.Value == 0)
  else some false)
  else some false) fun o15172 =>
  some o15172)
  else (bif x15115.Kind == 5 then (Option.bind (α := Bool) (bif x15115.Irq == 0 then (bif r15124 then (Option.bind (M.s_l1In x15115.Value 0 16) fun r15193 =>
  some r15193)
  else some false)
  else some false) fun o15188 =>
  some o15188)
  else (Option.bind (α := Bool) (bif x15115.Kind == 6 then (Option.bind (M.s_l6Irq x15115.Irq) fun r15216 =>
  bif r15216 then (bif x15115.Cpu == 0 then (Option.bind (M.s_l1In x15115.Value 0 1) fun r15222 =>
  some r15222)
  else some false)
  else some false)
  else some false) fun o15212 =>
  some o15212))))
def M.l_szMachStepS (x15288 : List MachStep) (x15293 : Int) : Option (Int) :=
  bif decide ((w64 (x15293 - (x15288.length : Int))) < 0) then some (-1)
  else some (w64 (x15293 - (x15288.length : Int)))
def M.l_toMachStepS (x15325 : List MachStep) : Option ((List MachStep)) :=
  Option.bind (gxMake 32 (x15325.length : Int) ((⟨0, 0, 0, 0⟩ : MachStep) : MachStep)) fun mk15335 =>
  Option.bind (whileM (σ := Int × List MachStep) (ρ := List MachStep) (fun s15367 =>
    bif decide (s15367.1 < (x15325.length : Int)) then (Option.bind (gxIdx x15325 s15367.1) fun y15383 =>
    Option.bind (M.l_toMachStep y15383) fun r15384 =>
    Option.bind (gxIdx s15367.2 s15367.1) fun y15388 =>
    some (.inl (w64 (s15367.1 + 1), (s15367.2.set s15367.1.toNat r15384))))
    else some (.inr s15367.2)) gxFuel (0, mk15335)) fun out15374 =>
  some out15374
def M.l_vBig (x15597 : List Int) : Option (Bool) :=
  some (decide ((x15597.length : Int) > 65536))
def M.s_l1Cur_next (x15689 : l1Cur) : Option (Int × Int × Int) :=
  Option.bind (α := Int) (bif decide (x15689.at_ < (x15689.code.length : Int)) then (Option.bind (gxIdx x15689.code x15689.at_) fun y15707 =>
  some (w64 y15707))
  else some 0) fun o15703 =>
  bif decide ((w64 (x15689.at_ + 1)) ≤ (x15689.code.length : Int)) then some (o15703, w64 (x15689.at_ + 1), IntKind.u64.wrap ((IntKind.u64.wrap ((IntKind.u64.wrap (x15689.seed * 6364136223846793005)) + (IntKind.u64.wrap o15703))) + 843843))
  else some (w64 (gxAnd .u64 ((IntKind.u64.wrap ((IntKind.u64.wrap ((IntKind.u64.wrap (x15689.seed * 6364136223846793005)) + (IntKind.u64.wrap o15703))) + 843843)).fdiv (2 ^ 40)) 255), w64 (x15689.at_ + 1), IntKind.u64.wrap ((IntKind.u64.wrap ((IntKind.u64.wrap (x15689.seed * 6364136223846793005)) + (IntKind.u64.wrap o15703))) + 843843))
def M.s_l1Cur_pick (x15679 : l1Cur) (x15687 : Int) : Option (Int × Int × Int) :=
  bif decide (x15687 ≤ 1) then some (0, x15679.at_, x15679.seed)
  else (Option.bind (M.s_l1Cur_next x15679) fun r15721 =>
  Option.bind (α := Int × Int × Int) (bif decide (x15687 > 200) then (Option.bind (M.s_l1Cur_next (⟨x15679.code, r15721.2.1, r15721.2.2⟩ : l1Cur)) fun r15734 =>
  some (w64 ((w64 (r15721.1 * 256)) + r15734.1), r15734.2.1, r15734.2.2))
  else some (r15721.1, r15721.2.1, r15721.2.2)) fun o15730 =>
  Option.bind (gxRem o15730.1 x15687) fun q15742 =>
  some (q15742, o15730.2.1, o15730.2.2))
def M.s_NewMachine (x15856 : List Route) (x15861 : Int) : Option (Machine × Bool) :=
  Option.bind (M.s_l21Routes x15856 x15861) fun r15887 =>
  bif !r15887 then some ((⟨([] : List Route), ([] : List Bool), ([] : List Bool), ([] : List Interface)⟩ : Machine), false)
  else (Option.bind (gxApp 16 ([] : List Route) x15856) fun ap15905 =>
  Option.bind (gxMake 1 8 (false : Bool)) fun mk15911 =>
  Option.bind (gxMake 1 8 (false : Bool)) fun mk15917 =>
  Option.bind (whileM (σ := Int × List Interface) (ρ := List Interface) (fun s16098 =>
    bif decide (s16098.1 < x15861) then (Option.bind (gxApp 80 s16098.2 [(⟨16, ([] : List Int), (⟨[(⟨0, 0, 0⟩ : Slot), (⟨0, 0, 0⟩ : Slot), (⟨0, 0, 0⟩ : Slot), (⟨0, 0, 0⟩ : Slot)], ([] : List Waiter)⟩ : Queue)⟩ : Interface)]) fun ap16160 =>
    some (.inl (w64 (s16098.1 + 1), ap16160)))
    else some (.inr s16098.2)) gxFuel (0, ([] : List Interface))) fun out16105 =>
  some ((⟨ap15905, mk15911, mk15917, out16105⟩ : Machine), true))
def M.s_l1Cur_one (x16223 : l1Cur) (x16231 : Int) : Option (Bool × Int × Int) :=
  Option.bind (M.s_l1Cur_pick x16223 x16231) fun r16232 =>
  some (r16232.1 == 0, r16232.2.1, r16232.2.2)
def M.s_l1Most (x16521 : Int) (x16522 : Int) : Option (Int) :=
  bif decide (x16521 > x16522) then some x16521
  else some x16522
def M.s_l1Cur_among (x16623 : l1Cur) (x16631 : List Int) : Option (Int × Int × Int) :=
  Option.bind (M.s_l1Cur_pick x16623 (x16631.length : Int)) fun r16637 =>
  Option.bind (gxIdx x16631 r16637.1) fun y16641 =>
  some (y16641, r16637.2.1, r16637.2.2)
def M.s_l1Cur_machStep (x16484 : l1Cur) (x16492 : Machine) : Option (MachStep × Int × Int) :=
  Option.bind (M.s_l1Most 1 (x16492.Cpus.length : Int)) fun r16524 =>
  Option.bind (M.s_l1Cur_pick x16484 r16524) fun r16528 =>
  Option.bind (M.s_l1Cur_pick (⟨x16484.code, r16528.2.1, r16528.2.2⟩ : l1Cur) 12) fun r16532 =>
  Option.bind (α := Bool) (bif r16532.1 == 0 then some (r16532.1 == 0)
  else (Option.bind (α := Bool) (bif r16532.1 == 1 then some (r16532.1 == 1)
  else some (r16532.1 == 2)) fun o16551 =>
  some o16551)) fun o16546 =>
  bif o16546 then (Option.bind (M.s_l1Cur_pick (⟨x16484.code, r16532.2.1, r16532.2.2⟩ : l1Cur) 8) fun r16564 =>
  some ((⟨1, r16564.1, 0, 0⟩ : MachStep), r16564.2.1, r16564.2.2))
  else (Option.bind (α := Bool) (bif r16532.1 == 3 then some (r16532.1 == 3)
  else some (r16532.1 == 4)) fun o16571 =>
  bif o16571 then some ((⟨2, 0, 0, 0⟩ : MachStep), r16532.2.1, r16532.2.2)
  else (Option.bind (α := Bool) (bif r16532.1 == 5 then some (r16532.1 == 5)
  else (Option.bind (α := Bool) (bif r16532.1 == 6 then some (r16532.1 == 6)
  else some (r16532.1 == 7)) fun o16597 =>
  some o16597)) fun o16592 =>
  bif o16592 then some ((⟨3, 0, r16528.1, 0⟩ : MachStep), r16532.2.1, r16532.2.2)
  else (bif r16532.1 == 8 then some ((⟨4, 0, r16528.1, 0⟩ : MachStep), r16532.2.1, r16532.2.2)
  else (bif r16532.1 == 9 then (Option.bind (M.s_l1Cur_among (⟨x16484.code, r16532.2.1, r16532.2.2⟩ : l1Cur) [16, 16, 8, 4, 0]) fun r16642 =>
  some ((⟨5, 0, r16528.1, r16642.1⟩ : MachStep), r16642.2.1, r16642.2.2))
  else (bif r16532.1 == 10 then (Option.bind (M.s_l1Cur_pick (⟨x16484.code, r16532.2.1, r16532.2.2⟩ : l1Cur) 8) fun r16649 =>
  Option.bind (M.s_l1Cur_among (⟨x16484.code, r16649.2.1, r16649.2.2⟩ : l1Cur) [1, 1, 0]) fun r16660 =>
  some ((⟨6, r16649.1, 0, r16660.1⟩ : MachStep), r16660.2.1, r16660.2.2))
  else (Option.bind (M.s_l1Cur_one (⟨x16484.code, r16532.2.1, r16532.2.2⟩ : l1Cur) 4) fun r16666 =>
  bif r16666.1 then (Option.bind (M.s_l1Cur_among (⟨x16484.code, r16666.2.1, r16666.2.2⟩ : l1Cur) [0, 7, 1, 5]) fun r16678 =>
  Option.bind (M.s_l1Cur_among (⟨x16484.code, r16678.2.1, r16678.2.2⟩ : l1Cur) [0, 8, (-1)]) fun r16689 =>
  Option.bind (M.s_l1Cur_among (⟨x16484.code, r16689.2.1, r16689.2.2⟩ : l1Cur) [0, 2]) fun r16700 =>
  Option.bind (M.s_l1Cur_among (⟨x16484.code, r16700.2.1, r16700.2.2⟩ : l1Cur) [0, 17]) fun r16711 =>
  some ((⟨r16678.1, r16689.1, r16700.1, r16711.1⟩ : MachStep), r16711.2.1, r16711.2.2))
  else some ((⟨2, 0, 0, 0⟩ : MachStep), r16666.2.1, r16666.2.2)))))))
end Go.Proofs.YtllhajkgkghhdaaGreat
