/- The models of the functions, printed by program: what each computes, in plain Lean. -/
import Derived.Test.YtllhajkgkghhdaaGreatGxT
set_option linter.unusedVariables false
set_option maxRecDepth 100000
set_option maxHeartbeats 4000000
namespace Go.Proofs.YtllhajkgkghhdaaGreat
open Go.Gx
structure MachStep where
  Kind : Int
  Irq : Int
  Cpu : Int
  Value : Int
def encMachStep : Enc MachStep := ⟨fun x => [.int .i64 x.Kind, .int .i64 x.Irq, .int .i64 x.Cpu, .int .i64 x.Value], 4, fun _ => rfl, by simp [Value.oneCell']⟩
structure l1Cur where
  code : List Int
  at_ : Int
  seed : Int
structure Slot where
  State : Int
  Irq : Int
  Priority : Int
def encSlot : Enc Slot := ⟨fun x => [.int .i64 x.State, .int .i64 x.Irq, .int .i64 x.Priority], 3, fun _ => rfl, by simp [Value.oneCell']⟩
structure Route where
  Priority : Int
  Target : Int
def encRoute : Enc Route := ⟨fun x => [.int .i64 x.Priority, .int .i64 x.Target], 2, fun _ => rfl, by simp [Value.oneCell']⟩
structure Waiter where
  Irq : Int
  Priority : Int
def encWaiter : Enc Waiter := ⟨fun x => [.int .i64 x.Irq, .int .i64 x.Priority], 2, fun _ => rfl, by simp [Value.oneCell']⟩
structure Queue where
  Slots : List Slot
  Waiting : List Waiter
structure Interface where
  Mask : Int
  Stack : List Int
  Queue : Queue
def deepInterface : Deep Interface := ⟨⟨fun z => [.int .i64 z.1.Mask, .slice ((z.2 0).1) z.1.Stack.length ((z.2 0).2), .slice ((z.2 1).1) z.1.Queue.Slots.length ((z.2 1).2), .slice ((z.2 2).1) z.1.Queue.Waiting.length ((z.2 2).2)], 4, fun _ => rfl, by simp [Value.oneCell']⟩, fun z => [⟨Int, Gx.encI, z.1.Stack, (z.2 0).1, (z.2 0).2⟩, ⟨Slot, encSlot, z.1.Queue.Slots, (z.2 1).1, (z.2 1).2⟩, ⟨Waiter, encWaiter, z.1.Queue.Waiting, (z.2 2).1, (z.2 2).2⟩]⟩
structure Machine where
  Routes : List Route
  Enabled : List Bool
  Raised : List Bool
  Cpus : List Interface
def M.l_szRouteS (x44 : List Route) (x49 : Int) : Option (Int) :=
  bif decide ((w64 (x49 - (x44.length : Int))) < 0) then some (-1)
  else some (w64 (x49 - (x44.length : Int)))
def M.l_szBoolS (x56 : List Bool) (x61 : Int) : Option (Int) :=
  bif decide ((w64 (x61 - (x56.length : Int))) < 0) then some (-1)
  else some (w64 (x61 - (x56.length : Int)))
def M.l_szIntS (x109 : List Int) (x114 : Int) : Option (Int) :=
  bif decide ((w64 (x114 - (x109.length : Int))) < 0) then some (-1)
  else some (w64 (x114 - (x109.length : Int)))
def M.l_szSlotS (x135 : List Slot) (x140 : Int) : Option (Int) :=
  bif decide ((w64 (x140 - (x135.length : Int))) < 0) then some (-1)
  else some (w64 (x140 - (x135.length : Int)))
def M.l_szWaiterS (x147 : List Waiter) (x152 : Int) : Option (Int) :=
  bif decide ((w64 (x152 - (x147.length : Int))) < 0) then some (-1)
  else some (w64 (x152 - (x147.length : Int)))
def M.l_szQueue (x121 : Queue) (x130 : Int) : Option (Int) :=
  Option.bind (M.l_szSlotS x121.Slots x130) fun r142 =>
  bif decide (r142 < 0) then some (-1)
  else (Option.bind (M.l_szWaiterS x121.Waiting r142) fun r154 =>
  bif decide (r154 < 0) then some (-1)
  else some r154)
def M.l_szInterface (x91 : Interface) (x104 : Int) : Option (Int) :=
  Option.bind (M.l_szIntS x91.Stack x104) fun r116 =>
  bif decide (r116 < 0) then some (-1)
  else (Option.bind (M.l_szQueue (⟨x91.Queue.Slots, x91.Queue.Waiting⟩ : Queue) r116) fun r159 =>
  bif decide (r159 < 0) then some (-1)
  else some r159)
def M.l_szInterfaceS (x73 : List Interface) (x78 : Int) : Option (Int) :=
  bif decide ((w64 (x78 - (x73.length : Int))) < 0) then some (-1)
  else (Option.bind (whileM (σ := Int × Int) (ρ := (Int) ⊕ (Int)) (fun s185 =>
    bif decide (s185.2 < (x73.length : Int)) then (Option.bind (gxIdx x73 s185.2) fun y197 =>
    Option.bind (M.l_szInterface (⟨y197.Mask, y197.Stack, (⟨y197.Queue.Slots, y197.Queue.Waiting⟩ : Queue)⟩ : Interface) s185.1) fun r207 =>
    bif decide (r207 < 0) then some (.inr (.inr (-1)))
    else some (.inl (r207, w64 (s185.2 + 1))))
    else some (.inr (.inl s185.1))) gxFuel (w64 (x78 - (x73.length : Int)), 0)) fun out192 => Sum.elim (fun (o195 : Int) =>
  some o195) (fun r => some r) out192)
def M.l_szMachine (x22 : Machine) (x39 : Int) : Option (Int) :=
  Option.bind (M.l_szRouteS x22.Routes x39) fun r51 =>
  bif decide (r51 < 0) then some (-1)
  else (Option.bind (M.l_szBoolS x22.Enabled r51) fun r63 =>
  bif decide (r63 < 0) then some (-1)
  else (Option.bind (M.l_szBoolS x22.Raised r63) fun r68 =>
  bif decide (r68 < 0) then some (-1)
  else (Option.bind (M.l_szInterfaceS x22.Cpus r68) fun r216 =>
  bif decide (r216 < 0) then some (-1)
  else some r216)))
def M.l_toRoute (x300 : Route) : Option (Route) :=
  some x300
def M.l_toRouteS (x280 : List Route) : Option ((List Route)) :=
  Option.bind (gxMake 16 (x280.length : Int) ((⟨0, 0⟩ : Route) : Route)) fun mk290 =>
  Option.bind (whileM (σ := Int × List Route) (ρ := List Route) (fun s341 =>
    bif decide (s341.1 < (x280.length : Int)) then (Option.bind (gxIdx x280 s341.1) fun y357 =>
    Option.bind (M.l_toRoute y357) fun r358 =>
    Option.bind (gxIdx s341.2 s341.1) fun y362 =>
    some (.inl (w64 (s341.1 + 1), (s341.2.set s341.1.toNat r358))))
    else some (.inr s341.2)) gxFuel (0, mk290)) fun out348 =>
  some out348
def M.l_toBoolS (x382 : List Bool) : Option ((List Bool)) :=
  Option.bind (gxMake 1 (x382.length : Int) (false : Bool)) fun mk392 =>
  Option.bind (whileM (σ := Int × List Bool) (ρ := List Bool) (fun s416 =>
    bif decide (s416.1 < (x382.length : Int)) then (Option.bind (gxIdx x382 s416.1) fun y432 =>
    Option.bind (gxIdx s416.2 s416.1) fun y433 =>
    some (.inl (w64 (s416.1 + 1), (s416.2.set s416.1.toNat y432))))
    else some (.inr s416.2)) gxFuel (0, mk392)) fun out423 =>
  some out423
def M.l_toIntS (x544 : List Int) : Option ((List Int)) :=
  Option.bind (gxMake 8 (x544.length : Int) (0 : Int)) fun mk554 =>
  Option.bind (whileM (σ := Int × List Int) (ρ := List Int) (fun s578 =>
    bif decide (s578.1 < (x544.length : Int)) then (Option.bind (gxIdx x544 s578.1) fun y594 =>
    Option.bind (gxIdx s578.2 s578.1) fun y595 =>
    some (.inl (w64 (s578.1 + 1), (s578.2.set s578.1.toNat y594))))
    else some (.inr s578.2)) gxFuel (0, mk554)) fun out585 =>
  some out585
def M.l_toSlot (x668 : Slot) : Option (Slot) :=
  some x668
def M.l_toSlotS (x648 : List Slot) : Option ((List Slot)) :=
  Option.bind (gxMake 24 (x648.length : Int) ((⟨0, 0, 0⟩ : Slot) : Slot)) fun mk658 =>
  Option.bind (whileM (σ := Int × List Slot) (ρ := List Slot) (fun s711 =>
    bif decide (s711.1 < (x648.length : Int)) then (Option.bind (gxIdx x648 s711.1) fun y727 =>
    Option.bind (M.l_toSlot y727) fun r728 =>
    Option.bind (gxIdx s711.2 s711.1) fun y732 =>
    some (.inl (w64 (s711.1 + 1), (s711.2.set s711.1.toNat r728))))
    else some (.inr s711.2)) gxFuel (0, mk658)) fun out718 =>
  some out718
def M.l_toWaiter (x772 : Waiter) : Option (Waiter) :=
  some x772
def M.l_toWaiterS (x752 : List Waiter) : Option ((List Waiter)) :=
  Option.bind (gxMake 16 (x752.length : Int) ((⟨0, 0⟩ : Waiter) : Waiter)) fun mk762 =>
  Option.bind (whileM (σ := Int × List Waiter) (ρ := List Waiter) (fun s813 =>
    bif decide (s813.1 < (x752.length : Int)) then (Option.bind (gxIdx x752 s813.1) fun y829 =>
    Option.bind (M.l_toWaiter y829) fun r830 =>
    Option.bind (gxIdx s813.2 s813.1) fun y834 =>
    some (.inl (w64 (s813.1 + 1), (s813.2.set s813.1.toNat r830))))
    else some (.inr s813.2)) gxFuel (0, mk762)) fun out820 =>
  some out820
def M.l_toQueue (x615 : Queue) : Option (Queue) :=
  Option.bind (M.l_toSlotS x615.Slots) fun r741 =>
  Option.bind (M.l_toWaiterS x615.Waiting) fun r843 =>
  some (⟨r741, r843⟩ : Queue)
def M.l_toInterface (x499 : Interface) : Option (Interface) :=
  Option.bind (M.l_toIntS x499.Stack) fun r604 =>
  Option.bind (M.l_toQueue (⟨x499.Queue.Slots, x499.Queue.Waiting⟩ : Queue)) fun r856 =>
  some (⟨x499.Mask, r604, r856⟩ : Interface)
def M.l_toInterfaceS (x464 : List Interface) : Option ((List Interface)) :=
  Option.bind (gxMake 80 (x464.length : Int) ((⟨0, [], (⟨[], []⟩ : Queue)⟩ : Interface) : Interface)) fun mk478 =>
  Option.bind (whileM (σ := Int × List Interface) (ρ := List Interface) (fun s974 =>
    bif decide (s974.1 < (x464.length : Int)) then (Option.bind (gxIdx x464 s974.1) fun y992 =>
    Option.bind (M.l_toInterface (⟨y992.Mask, y992.Stack, (⟨y992.Queue.Slots, y992.Queue.Waiting⟩ : Queue)⟩ : Interface)) fun r1002 =>
    Option.bind (gxIdx s974.2 s974.1) fun y1021 =>
    some (.inl (w64 (s974.1 + 1), (s974.2.set s974.1.toNat (⟨r1002.Mask, r1002.Stack, (⟨r1002.Queue.Slots, r1002.Queue.Waiting⟩ : Queue)⟩ : Interface)))))
    else some (.inr s974.2)) gxFuel (0, mk478)) fun out981 =>
  some out981
def M.l_toMachine (x226 : Machine) : Option (Machine) :=
  Option.bind (M.l_toRouteS x226.Routes) fun r371 =>
  Option.bind (M.l_toBoolS x226.Enabled) fun r442 =>
  Option.bind (M.l_toBoolS x226.Raised) fun r453 =>
  Option.bind (M.l_toInterfaceS x226.Cpus) fun r1049 =>
  some (⟨r371, r442, r453, r1049⟩ : Machine)
def M.s_l1In (x1139 : Int) (x1140 : Int) (x1141 : Int) : Option (Bool) :=
  Option.bind (α := Bool) (bif decide (x1139 ≥ x1140) then some (decide (x1139 ≤ x1141))
  else some false) fun o1143 =>
  some o1143
def M.s_l6Prio (x1138 : Int) : Option (Bool) :=
  Option.bind (M.s_l1In x1138 0 15) fun r1151 =>
  some r1151
def M.s_l21Routes (x1130 : List Route) (x1135 : Int) : Option (Bool) :=
  Option.bind (whileM (σ := Int) (ρ := (Unit) ⊕ (Bool)) (fun s1215 =>
    bif decide (s1215 < (x1130.length : Int)) then (Option.bind (α := Bool) (Option.bind (gxIdx x1130 s1215) fun y1241 =>
    Option.bind (M.s_l6Prio y1241.Priority) fun r1242 =>
    bif !r1242 then some true
    else (Option.bind (gxIdx x1130 s1215) fun y1247 =>
    Option.bind (M.s_l1In y1247.Target 0 (w64 (x1135 - 1))) fun r1248 =>
    some (!r1248))) fun o1238 =>
    bif o1238 then some (.inr (.inr false))
    else some (.inl (w64 (s1215 + 1))))
    else some (.inr (.inl ()))) gxFuel 0) fun out1222 => Sum.elim (fun (o1225 : Unit) =>
  Option.bind (α := Bool) (Option.bind (M.s_l1In x1135 1 2) fun r1269 =>
  bif r1269 then some ((x1130.length : Int) == 8)
  else some false) fun o1266 =>
  some o1266) (fun r => some r) out1222
def M.s_l6Irq (x1371 : Int) : Option (Bool) :=
  Option.bind (M.s_l1In x1371 0 7) fun r1372 =>
  some r1372
def M.s_l8Find (x1386 : List Slot) (x1391 : Int) : Option (Int) :=
  Option.bind (whileM (σ := Int) (ρ := (Unit) ⊕ (Int)) (fun s1422 =>
    bif decide (s1422 < (x1386.length : Int)) then (Option.bind (α := Bool) (Option.bind (gxIdx x1386 s1422) fun y1440 =>
    bif y1440.State != 0 then (Option.bind (gxIdx x1386 s1422) fun y1442 =>
    some (y1442.Irq == x1391))
    else some false) fun o1437 =>
    bif o1437 then some (.inr (.inr s1422))
    else some (.inl (w64 (s1422 + 1))))
    else some (.inr (.inl ()))) gxFuel 0) fun out1429 => Sum.elim (fun (o1432 : Unit) =>
  some (-1)) (fun r => some r) out1429
def M.s_l8Less (x1481 : Int) (x1482 : Int) (x1483 : Int) (x1484 : Int) : Option (Bool) :=
  Option.bind (α := Bool) (bif decide (x1481 < x1483) then some true
  else (bif x1481 == x1483 then some (decide (x1482 < x1484))
  else some false)) fun o1487 =>
  some o1487
def M.s_l8Good (x1794 : List Slot) : Option (Bool) :=
  Option.bind (whileM (σ := Int) (ρ := (Unit) ⊕ (Bool)) (fun s1955 =>
    bif decide (s1955 < (x1794.length : Int)) then (Option.bind (gxIdx x1794 s1955) fun y1967 =>
    Option.bind (α := Bool) (Option.bind (M.s_l1In y1967.State 0 3) fun r1991 =>
    bif !r1991 then some true
    else (Option.bind (M.s_l6Irq y1967.Irq) fun r1996 =>
    bif !r1996 then some true
    else (Option.bind (M.s_l6Prio y1967.Priority) fun r2001 =>
    some (!r2001)))) fun o1988 =>
    bif o1988 then some (.inr (.inr false))
    else (Option.bind (α := Bool) (bif y1967.State == 0 then (bif y1967.Irq != 0 then some true
    else (bif y1967.Priority != 0 then some true
    else (bif y1967.State != 0 then (Option.bind (M.s_l8Find x1794 y1967.Irq) fun r2030 =>
    some (r2030 != s1955))
    else some false)))
    else (bif y1967.State != 0 then (Option.bind (M.s_l8Find x1794 y1967.Irq) fun r2035 =>
    some (r2035 != s1955))
    else some false)) fun o2023 =>
    bif o2023 then some (.inr (.inr false))
    else some (.inl (w64 (s1955 + 1)))))
    else some (.inr (.inl ()))) gxFuel 0) fun out1962 => Sum.elim (fun (o1965 : Unit) =>
  some ((x1794.length : Int) == 4)) (fun r => some r) out1962
def M.s_l9Waiting (x1344 : List Slot) (x1349 : List Waiter) : Option (Bool) :=
  Option.bind (whileM (σ := Int) (ρ := (Unit) ⊕ (Bool)) (fun s1666 =>
    Option.bind (α := Bool) (bif decide (s1666 < (x1349.length : Int)) then some (decide (s1666 ≤ 8))
    else some false) fun o1678 =>
    bif o1678 then (Option.bind (gxIdx x1349 s1666) fun y1687 =>
    Option.bind (α := Bool) (Option.bind (M.s_l6Irq y1687.Irq) fun r1711 =>
    bif !r1711 then some true
    else (Option.bind (M.s_l6Prio y1687.Priority) fun r1716 =>
    bif !r1716 then some true
    else (Option.bind (M.s_l8Find x1344 y1687.Irq) fun r1721 =>
    some (decide (r1721 ≥ 0))))) fun o1708 =>
    bif o1708 then some (.inr (.inr false))
    else (Option.bind (α := Bool) (bif decide (s1666 > 0) then (Option.bind (gxIdx x1349 (w64 (s1666 - 1))) fun y1745 =>
    Option.bind (gxIdx x1349 (w64 (s1666 - 1))) fun y1746 =>
    Option.bind (M.s_l8Less y1745.Priority y1746.Irq y1687.Priority y1687.Irq) fun r1747 =>
    some (!r1747))
    else some false) fun o1741 =>
    bif o1741 then some (.inr (.inr false))
    else (Option.bind (whileM (σ := Int) (ρ := (Unit) ⊕ (Bool)) (fun s1770 =>
      bif decide (s1770 < s1666) then (Option.bind (gxIdx x1349 s1770) fun y1782 =>
      bif y1782.Irq == y1687.Irq then some (.inr (.inr false))
      else some (.inl (w64 (s1770 + 1))))
      else some (.inr (.inl ()))) gxFuel 0) fun out1777 => Sum.elim (fun (o1780 : Unit) =>
    some (.inl (w64 (s1666 + 1)))) (fun r => some (.inr (.inr r))) out1777)))
    else some (.inr (.inl ()))) gxFuel 0) fun out1673 => Sum.elim (fun (o1676 : Unit) =>
  Option.bind (α := Bool) (Option.bind (M.s_l8Good x1344) fun r2056 =>
  bif r2056 then some (decide ((x1349.length : Int) ≤ 8))
  else some false) fun o2053 =>
  some o2053) (fun r => some r) out1673
def M.s_l8Free (x2084 : List Slot) : Option (Int) :=
  Option.bind (whileM (σ := Int) (ρ := (Unit) ⊕ (Int)) (fun s2095 =>
    bif decide (s2095 < (x2084.length : Int)) then (Option.bind (gxIdx x2084 s2095) fun y2107 =>
    bif y2107.State == 0 then some (.inr (.inr s2095))
    else some (.inl (w64 (s2095 + 1))))
    else some (.inr (.inl ()))) gxFuel 0) fun out2102 => Sum.elim (fun (o2105 : Unit) =>
  some (-1)) (fun r => some r) out2102
def M.s_l8Best (x2118 : List Slot) (x2123 : Bool) : Option (Int) :=
  Option.bind (whileM (σ := Int × Int) (ρ := Int) (fun s2516 =>
    bif decide (s2516.2 < (x2118.length : Int)) then (Option.bind (α := Int) (Option.bind (gxIdx x2118 s2516.2) fun y2625 =>
    bif y2625.State != 1 then some s2516.1
    else (Option.bind (α := Bool) (bif decide (s2516.1 < 0) then some true
    else (bif x2123 then (Option.bind (gxIdx x2118 s2516.1) fun y2675 =>
    Option.bind (gxIdx x2118 s2516.1) fun y2676 =>
    Option.bind (M.s_l8Less y2625.Priority y2625.Irq y2675.Priority y2676.Irq) fun r2677 =>
    bif r2677 then some true
    else (bif !x2123 then (Option.bind (gxIdx x2118 s2516.1) fun y2685 =>
    Option.bind (gxIdx x2118 s2516.1) fun y2686 =>
    Option.bind (M.s_l8Less y2685.Priority y2686.Irq y2625.Priority y2625.Irq) fun r2687 =>
    some r2687)
    else some false))
    else (bif !x2123 then (Option.bind (gxIdx x2118 s2516.1) fun y2696 =>
    Option.bind (gxIdx x2118 s2516.1) fun y2697 =>
    Option.bind (M.s_l8Less y2696.Priority y2697.Irq y2625.Priority y2625.Irq) fun r2698 =>
    some r2698)
    else some false))) fun o2668 =>
    Option.bind (α := Int) (bif o2668 then some s2516.2
    else some s2516.1) fun o2711 =>
    some o2711)) fun o2622 =>
    some (.inl (o2622, w64 (s2516.2 + 1))))
    else some (.inr s2516.1)) gxFuel ((-1), 0)) fun out2523 =>
  some out2523
def M.s_l9Settled (x2070 : Queue) : Option (Bool) :=
  bif (x2070.Waiting.length : Int) == 0 then some true
  else (Option.bind (M.s_l8Free x2070.Slots) fun r2113 =>
  bif decide (r2113 ≥ 0) then some false
  else (Option.bind (M.s_l8Best x2070.Slots false) fun r2727 =>
  Option.bind (α := Bool) (bif decide (r2727 < 0) then some true
  else (Option.bind (gxIdx x2070.Slots r2727) fun y2750 =>
  Option.bind (gxIdx x2070.Slots r2727) fun y2751 =>
  Option.bind (gxIdx x2070.Waiting 0) fun y2752 =>
  Option.bind (gxIdx x2070.Waiting 0) fun y2753 =>
  Option.bind (M.s_l8Less y2750.Priority y2751.Irq y2752.Priority y2753.Irq) fun r2754 =>
  some r2754)) fun o2744 =>
  some o2744))
def M.s_l9Good (x1331 : Queue) : Option (Bool) :=
  Option.bind (α := Bool) (Option.bind (M.s_l9Waiting x1331.Slots x1331.Waiting) fun r2771 =>
  bif r2771 then (Option.bind (M.s_l9Settled x1331) fun r2776 =>
  some r2776)
  else some false) fun o2768 =>
  some o2768
def M.s_l1Put (x2838 : List Int) (x2844 : Int) : Option ((List Int)) :=
  Option.bind (whileM (σ := Int) (ρ := Int) (fun s2874 =>
    Option.bind (α := Bool) (bif decide (s2874 < (x2838.length : Int)) then (Option.bind (gxIdx x2838 s2874) fun y2891 =>
    some (decide (y2891 < x2844)))
    else some false) fun o2887 =>
    bif o2887 then some (.inl (w64 (s2874 + 1)))
    else some (.inr s2874)) gxFuel 0) fun out2881 =>
  Option.bind (α := Bool) (bif decide (out2881 < (x2838.length : Int)) then (Option.bind (gxIdx x2838 out2881) fun y2907 =>
  some (y2907 == x2844))
  else some false) fun o2903 =>
  bif o2903 then some x2838
  else (Option.bind (gxSlice x2838 0 out2881) fun ys2920 =>
  Option.bind (gxApp 8 ([] : List Int) ys2920) fun ap2922 =>
  Option.bind (gxApp 8 ap2922 [x2844]) fun ap2933 =>
  Option.bind (gxSlice x2838 out2881 (x2838.length : Int)) fun ys2939 =>
  Option.bind (gxApp 8 ap2933 ys2939) fun ap2988 =>
  some ap2988)
def M.s_l8Active (x2805 : List Slot) : Option ((List Int)) :=
  Option.bind (whileM (σ := List Int × Int) (ρ := List Int) (fun s3081 =>
    bif decide (s3081.2 < (x2805.length : Int)) then (Option.bind (α := Bool) (Option.bind (gxIdx x2805 s3081.2) fun y3109 =>
    bif y3109.State == 2 then some true
    else (Option.bind (gxIdx x2805 s3081.2) fun y3111 =>
    some (y3111.State == 3))) fun o3106 =>
    Option.bind (α := List Int) (bif o3106 then (Option.bind (gxIdx x2805 s3081.2) fun y3136 =>
    Option.bind (M.s_l1Put s3081.1 y3136.Irq) fun r3137 =>
    some r3137)
    else some s3081.1) fun o3127 =>
    some (.inl (o3127, w64 (s3081.2 + 1))))
    else some (.inr s3081.1)) gxFuel (([] : List Int), 0)) fun out3088 =>
  some out3088
def M.s_l1Has (x3165 : List Int) (x3170 : Int) : Option (Bool) :=
  Option.bind (whileM (σ := Int) (ρ := (Unit) ⊕ (Bool)) (fun s3177 =>
    bif decide (s3177 < (x3165.length : Int)) then (Option.bind (gxIdx x3165 s3177) fun y3189 =>
    bif y3189 == x3170 then some (.inr (.inr true))
    else some (.inl (w64 (s3177 + 1))))
    else some (.inr (.inl ()))) gxFuel 0) fun out3184 => Sum.elim (fun (o3187 : Unit) =>
  some false) (fun r => some r) out3184
def M.s_l10Level (x3238 : Queue) (x3247 : Int) : Option (Int) :=
  Option.bind (M.s_l8Find x3238.Slots x3247) fun r3252 =>
  Option.bind (gxIdx x3238.Slots r3252) fun y3256 =>
  some y3256.Priority
def M.s_l10Good (x1309 : Interface) : Option (Bool) :=
  Option.bind (α := Bool) (Option.bind (M.s_l1In x1309.Mask 0 16) fun r2791 =>
  bif !r2791 then some true
  else (Option.bind (M.s_l9Good (⟨x1309.Queue.Slots, x1309.Queue.Waiting⟩ : Queue)) fun r2796 =>
  some (!r2796))) fun o2788 =>
  bif o2788 then some false
  else (Option.bind (M.s_l8Active x1309.Queue.Slots) fun r3154 =>
  Option.bind (whileM (σ := Int) (ρ := (Unit) ⊕ (Bool)) (fun s3376 =>
    bif decide (s3376 < (x1309.Stack.length : Int)) then (Option.bind (α := Bool) (Option.bind (gxIdx x1309.Stack s3376) fun y3408 =>
    Option.bind (M.s_l1Has r3154 y3408) fun r3409 =>
    bif !r3409 then some true
    else (Option.bind (gxSlice x1309.Stack 0 s3376) fun ys3416 =>
    Option.bind (gxIdx x1309.Stack s3376) fun y3418 =>
    Option.bind (M.s_l1Has ys3416 y3418) fun r3419 =>
    some r3419)) fun o3405 =>
    bif o3405 then some (.inr (.inr false))
    else (Option.bind (α := Bool) (bif decide (s3376 > 0) then (Option.bind (gxIdx x1309.Stack (w64 (s3376 - 1))) fun y3449 =>
    Option.bind (M.s_l10Level (⟨x1309.Queue.Slots, x1309.Queue.Waiting⟩ : Queue) y3449) fun r3450 =>
    Option.bind (gxIdx x1309.Stack s3376) fun y3454 =>
    Option.bind (M.s_l10Level (⟨x1309.Queue.Slots, x1309.Queue.Waiting⟩ : Queue) y3454) fun r3455 =>
    some (decide (r3450 ≤ r3455)))
    else some false) fun o3445 =>
    bif o3445 then some (.inr (.inr false))
    else some (.inl (w64 (s3376 + 1)))))
    else some (.inr (.inl ()))) gxFuel 0) fun out3383 => Sum.elim (fun (o3386 : Unit) =>
  some ((x1309.Stack.length : Int) == (r3154.length : Int))) (fun r => some r) out3383)
def M.s_l21Queue (x3485 : List Route) (x3490 : Queue) (x3499 : Int) : Option (Bool) :=
  Option.bind (whileM (σ := Int) (ρ := (Unit) ⊕ (Bool)) (fun s3588 =>
    bif decide (s3588 < (x3490.Slots.length : Int)) then (Option.bind (gxIdx x3490.Slots s3588) fun y3600 =>
    Option.bind (α := Bool) (bif y3600.State == 3 then some true
    else (bif y3600.State != 0 then (Option.bind (gxIdx x3485 y3600.Irq) fun y3627 =>
    bif y3627.Target != x3499 then some true
    else (Option.bind (gxIdx x3485 y3600.Irq) fun y3631 =>
    some (y3631.Priority != y3600.Priority)))
    else some false)) fun o3620 =>
    bif o3620 then some (.inr (.inr false))
    else some (.inl (w64 (s3588 + 1))))
    else some (.inr (.inl ()))) gxFuel 0) fun out3595 => Sum.elim (fun (o3598 : Unit) =>
  Option.bind (whileM (σ := Int) (ρ := (Unit) ⊕ (Bool)) (fun s3705 =>
    bif decide (s3705 < (x3490.Waiting.length : Int)) then (Option.bind (gxIdx x3490.Waiting s3705) fun y3717 =>
    Option.bind (α := Bool) (Option.bind (gxIdx x3485 y3717.Irq) fun y3734 =>
    bif y3734.Target != x3499 then some true
    else (Option.bind (gxIdx x3485 y3717.Irq) fun y3738 =>
    some (y3738.Priority != y3717.Priority))) fun o3731 =>
    bif o3731 then some (.inr (.inr false))
    else some (.inl (w64 (s3705 + 1))))
    else some (.inr (.inl ()))) gxFuel 0) fun out3712 => Sum.elim (fun (o3715 : Unit) =>
  some true) (fun r => some r) out3712) (fun r => some r) out3595
def M.s_l21Good (x1109 : Machine) : Option (Bool) :=
  Option.bind (α := Bool) (Option.bind (M.s_l21Routes x1109.Routes (x1109.Cpus.length : Int)) fun r1287 =>
  bif !r1287 then some true
  else (bif (x1109.Enabled.length : Int) != 8 then some true
  else some ((x1109.Raised.length : Int) != 8))) fun o1284 =>
  bif o1284 then some false
  else (Option.bind (whileM (σ := Int) (ρ := (Unit) ⊕ (Bool)) (fun s3860 =>
    bif decide (s3860 < (x1109.Cpus.length : Int)) then (Option.bind (α := Bool) (Option.bind (gxIdx x1109.Cpus s3860) fun y3904 =>
    Option.bind (M.s_l10Good (⟨y3904.Mask, y3904.Stack, (⟨y3904.Queue.Slots, y3904.Queue.Waiting⟩ : Queue)⟩ : Interface)) fun r3914 =>
    bif !r3914 then some true
    else (Option.bind (gxIdx x1109.Cpus s3860) fun y3921 =>
    Option.bind (M.s_l21Queue x1109.Routes (⟨y3921.Queue.Slots, y3921.Queue.Waiting⟩ : Queue) s3860) fun r3927 =>
    some (!r3927))) fun o3901 =>
    bif o3901 then some (.inr (.inr false))
    else some (.inl (w64 (s3860 + 1))))
    else some (.inr (.inl ()))) gxFuel 0) fun out3867 => Sum.elim (fun (o3870 : Unit) =>
  some true) (fun r => some r) out3867)
def M.s_IsMachine (x1088 : Machine) : Option (Bool) :=
  Option.bind (M.s_l21Good x1088) fun r3942 =>
  some r3942
def M.i_inside (x4016 : Int) (x4017 : Int) (x4018 : Int) : Option (Bool) :=
  Option.bind (α := Bool) (bif decide (x4016 ≥ x4017) then some (decide (x4016 ≤ x4018))
  else some false) fun o4020 =>
  some o4020
def M.i_isPriority (x4063 : Int) : Option (Bool) :=
  Option.bind (M.i_inside x4063 0 15) fun r4064 =>
  some r4064
def M.i_areRoutes_1 (x4054 : Route) (x4055 : Int) : Option (Bool) :=
  Option.bind (α := Bool) (Option.bind (M.i_isPriority x4054.Priority) fun r4080 =>
  bif !r4080 then some true
  else (Option.bind (M.i_inside x4054.Target 0 (w64 (x4055 - 1))) fun r4085 =>
  some (!r4085))) fun o4077 =>
  some o4077
def M.slices_IndexFunc_159__i_areRoutes_1 (x4043 : List Route) (x4048 : Int) : Option (Int) :=
  Option.bind (whileM (σ := Int) (ρ := (Unit) ⊕ (Int)) (fun s4105 =>
    bif decide (s4105 < (x4043.length : Int)) then (Option.bind (gxIdx x4043 s4105) fun y4117 =>
    Option.bind (M.i_areRoutes_1 y4117 x4048) fun r4118 =>
    bif r4118 then some (.inr (.inr s4105))
    else some (.inl (w64 (s4105 + 1))))
    else some (.inr (.inl ()))) gxFuel 0) fun out4112 => Sum.elim (fun (o4115 : Unit) =>
  some (-1)) (fun r => some r) out4112
def M.slices_ContainsFunc_109__i_areRoutes_1 (x4034 : List Route) (x4039 : Int) : Option (Bool) :=
  Option.bind (M.slices_IndexFunc_159__i_areRoutes_1 x4034 x4039) fun r4127 =>
  some (decide (r4127 ≥ 0))
def M.i_areRoutes (x4006 : List Route) (x4011 : Int) : Option (Bool) :=
  Option.bind (α := Bool) (Option.bind (M.i_inside x4011 1 2) fun r4138 =>
  bif r4138 then (bif (x4006.length : Int) == 8 then (Option.bind (M.slices_ContainsFunc_109__i_areRoutes_1 x4006 x4011) fun r4144 =>
  some (!r4144))
  else some false)
  else some false) fun o4135 =>
  some o4135
def M.i_isMask (x4209 : Int) : Option (Bool) :=
  Option.bind (M.i_inside x4209 0 16) fun r4210 =>
  some r4210
def M.i_isIrq (x4265 : Int) : Option (Bool) :=
  Option.bind (M.i_inside x4265 0 7) fun r4266 =>
  some r4266
def M.i_findSlot_1 (x4307 : Slot) (x4308 : Int) : Option (Bool) :=
  Option.bind (α := Bool) (bif x4307.State != 0 then some (x4307.Irq == x4308)
  else some false) fun o4317 =>
  some o4317
def M.slices_IndexFunc_210__i_findSlot_1 (x4296 : List Slot) (x4301 : Int) : Option (Int) :=
  Option.bind (whileM (σ := Int) (ρ := (Unit) ⊕ (Int)) (fun s4337 =>
    bif decide (s4337 < (x4296.length : Int)) then (Option.bind (gxIdx x4296 s4337) fun y4349 =>
    Option.bind (M.i_findSlot_1 y4349 x4301) fun r4350 =>
    bif r4350 then some (.inr (.inr s4337))
    else some (.inl (w64 (s4337 + 1))))
    else some (.inr (.inl ()))) gxFuel 0) fun out4344 => Sum.elim (fun (o4347 : Unit) =>
  some (-1)) (fun r => some r) out4344
def M.i_findSlot (x4286 : List Slot) (x4291 : Int) : Option (Int) :=
  Option.bind (M.slices_IndexFunc_210__i_findSlot_1 x4286 x4291) fun r4359 =>
  some r4359
def M.i_AreSlots (x4242 : List Slot) : Option (Bool) :=
  bif (x4242.length : Int) != 4 then some false
  else (Option.bind (whileM (σ := Int) (ρ := (Unit) ⊕ (Bool)) (fun s4482 =>
    bif decide (s4482 < (x4242.length : Int)) then (Option.bind (gxIdx x4242 s4482) fun y4494 =>
    bif y4494.State == 0 then (bif !((y4494.State == 0) && ((y4494.Irq == 0) && ((y4494.Priority == 0) && true))) then some (.inr (.inr false))
    else some (.inl (w64 (s4482 + 1))))
    else (Option.bind (α := Bool) (Option.bind (M.i_inside y4494.State 1 3) fun r4535 =>
    bif !r4535 then some true
    else (Option.bind (M.i_isIrq y4494.Irq) fun r4542 =>
    bif !r4542 then some true
    else (Option.bind (M.i_isPriority y4494.Priority) fun r4549 =>
    bif !r4549 then some true
    else (Option.bind (gxSlice x4242 0 s4482) fun ys4556 =>
    Option.bind (M.i_findSlot ys4556 y4494.Irq) fun r4558 =>
    some (decide (r4558 ≥ 0)))))) fun o4532 =>
    bif o4532 then some (.inr (.inr false))
    else some (.inl (w64 (s4482 + 1)))))
    else some (.inr (.inl ()))) gxFuel 0) fun out4489 => Sum.elim (fun (o4492 : Unit) =>
  some true) (fun r => some r) out4489)
def M.i_waiterIndex_1 (x4630 : Waiter) (x4631 : Int) : Option (Bool) :=
  some (x4630.Irq == x4631)
def M.slices_IndexFunc_166__i_waiterIndex_1 (x4619 : List Waiter) (x4624 : Int) : Option (Int) :=
  Option.bind (whileM (σ := Int) (ρ := (Unit) ⊕ (Int)) (fun s4651 =>
    bif decide (s4651 < (x4619.length : Int)) then (Option.bind (gxIdx x4619 s4651) fun y4663 =>
    Option.bind (M.i_waiterIndex_1 y4663 x4624) fun r4664 =>
    bif r4664 then some (.inr (.inr s4651))
    else some (.inl (w64 (s4651 + 1))))
    else some (.inr (.inl ()))) gxFuel 0) fun out4658 => Sum.elim (fun (o4661 : Unit) =>
  some (-1)) (fun r => some r) out4658
def M.i_waiterIndex (x4609 : List Waiter) (x4614 : Int) : Option (Int) :=
  Option.bind (M.slices_IndexFunc_166__i_waiterIndex_1 x4609 x4614) fun r4673 =>
  some r4673
def M.cmp_isNaN_222 (x4700 : Int) : Option (Bool) :=
  some (x4700 != x4700)
def M.cmp_Compare_170 (x4698 : Int) (x4699 : Int) : Option (Int) :=
  Option.bind (M.cmp_isNaN_222 x4698) fun r4701 =>
  Option.bind (M.cmp_isNaN_222 x4699) fun r4705 =>
  bif r4701 then (bif r4705 then some 0
  else some (-1))
  else (bif r4705 then some 1
  else (bif decide (x4698 < x4699) then some (-1)
  else (bif decide (x4698 > x4699) then some 1
  else some 0)))
def M.cmp_Or_169 (x4766 : List Int) : Option (Int) :=
  Option.bind (whileM (σ := Int) (ρ := (Unit) ⊕ (Int)) (fun s4777 =>
    bif decide (s4777 < (x4766.length : Int)) then (Option.bind (gxIdx x4766 s4777) fun y4789 =>
    bif y4789 != 0 then some (.inr (.inr y4789))
    else some (.inl (w64 (s4777 + 1))))
    else some (.inr (.inl ()))) gxFuel 0) fun out4784 => Sum.elim (fun (o4787 : Unit) =>
  some 0) (fun r => some r) out4784
def M.i_compareUrgency (x4686 : Waiter) (x4687 : Waiter) : Option (Int) :=
  Option.bind (M.cmp_Compare_170 x4686.Priority x4687.Priority) fun r4714 =>
  Option.bind (M.cmp_Compare_170 x4686.Irq x4687.Irq) fun r4755 =>
  Option.bind (M.cmp_Or_169 [r4714, r4755]) fun r4795 =>
  some r4795
def M.i_areParts (x4232 : List Slot) (x4237 : List Waiter) : Option (Bool) :=
  Option.bind (M.i_AreSlots x4232) fun r4573 =>
  bif !r4573 then some false
  else (Option.bind (whileM (σ := Int) (ρ := (Unit) ⊕ (Bool)) (fun s4951 =>
    bif decide (s4951 < (x4237.length : Int)) then (Option.bind (gxIdx x4237 s4951) fun y4963 =>
    Option.bind (α := Bool) (Option.bind (M.i_isIrq y4963.Irq) fun r5013 =>
    bif !r5013 then some true
    else (Option.bind (M.i_isPriority y4963.Priority) fun r5020 =>
    bif !r5020 then some true
    else (Option.bind (M.i_findSlot x4232 y4963.Irq) fun r5027 =>
    bif decide (r5027 ≥ 0) then some true
    else (Option.bind (gxSlice x4237 0 s4951) fun ys5034 =>
    Option.bind (M.i_waiterIndex ys5034 y4963.Irq) fun r5036 =>
    bif decide (r5036 ≥ 0) then some true
    else (bif decide (s4951 > 0) then (Option.bind (gxIdx x4237 (w64 (s4951 - 1))) fun y5044 =>
    Option.bind (M.i_compareUrgency y5044 y4963) fun r5045 =>
    some (decide (r5045 ≥ 0)))
    else some false))))) fun o5010 =>
    bif o5010 then some (.inr (.inr false))
    else some (.inl (w64 (s4951 + 1))))
    else some (.inr (.inl ()))) gxFuel 0) fun out4958 => Sum.elim (fun (o4961 : Unit) =>
  some true) (fun r => some r) out4958)
def M.i_waiterOf (x5099 : Slot) : Option (Waiter) :=
  some (⟨x5099.Irq, x5099.Priority⟩ : Waiter)
def M.i_pendingSlot (x5081 : List Slot) (x5086 : Bool) : Option (Int) :=
  Option.bind (whileM (σ := Int × Int) (ρ := Int) (fun s5230 =>
    bif decide (s5230.2 < (x5081.length : Int)) then (Option.bind (gxIdx x5081 s5230.2) fun y5242 =>
    Option.bind (α := Bool) (bif y5242.State == 1 then (bif decide (s5230.1 < 0) then some true
    else (Option.bind (M.i_waiterOf y5242) fun r5277 =>
    Option.bind (gxIdx x5081 s5230.1) fun y5281 =>
    Option.bind (M.i_waiterOf y5281) fun r5282 =>
    Option.bind (M.i_compareUrgency r5277 r5282) fun r5286 =>
    some ((decide (r5286 < 0)) == x5086)))
    else some false) fun o5270 =>
    Option.bind (α := Int) (bif o5270 then some s5230.2
    else some s5230.1) fun o5299 =>
    some (.inl (o5299, w64 (s5230.2 + 1))))
    else some (.inr s5230.1)) gxFuel ((-1), 0)) fun out5237 =>
  some out5237
def M.i_firstEmpty_1 (x5327 : Slot) : Option (Bool) :=
  some (x5327.State == 0)
def M.slices_IndexFunc_210__i_firstEmpty_1 (x5320 : List Slot) : Option (Int) :=
  Option.bind (whileM (σ := Int) (ρ := (Unit) ⊕ (Int)) (fun s5344 =>
    bif decide (s5344 < (x5320.length : Int)) then (Option.bind (gxIdx x5320 s5344) fun y5356 =>
    Option.bind (M.i_firstEmpty_1 y5356) fun r5357 =>
    bif r5357 then some (.inr (.inr s5344))
    else some (.inl (w64 (s5344 + 1))))
    else some (.inr (.inl ()))) gxFuel 0) fun out5351 => Sum.elim (fun (o5354 : Unit) =>
  some (-1)) (fun r => some r) out5351
def M.i_firstEmpty (x5315 : List Slot) : Option (Int) :=
  Option.bind (M.slices_IndexFunc_210__i_firstEmpty_1 x5315) fun r5366 =>
  some r5366
def M.i_isSettled (x5067 : Queue) : Option (Bool) :=
  bif (x5067.Waiting.length : Int) == 0 then some true
  else (Option.bind (M.i_pendingSlot x5067.Slots false) fun r5311 =>
  Option.bind (α := Bool) (Option.bind (M.i_firstEmpty x5067.Slots) fun r5395 =>
  bif decide (r5395 < 0) then (bif decide (r5311 < 0) then some true
  else (Option.bind (gxIdx x5067.Waiting 0) fun y5403 =>
  Option.bind (gxIdx x5067.Slots r5311) fun y5404 =>
  Option.bind (M.i_waiterOf y5404) fun r5405 =>
  Option.bind (M.i_compareUrgency y5403 r5405) fun r5409 =>
  some (decide (r5409 > 0))))
  else some false) fun o5392 =>
  some o5392)
def M.i_IsQueue (x4219 : Queue) : Option (Bool) :=
  Option.bind (α := Bool) (Option.bind (M.i_areParts x4219.Slots x4219.Waiting) fun r5428 =>
  bif r5428 then (Option.bind (M.i_isSettled x4219) fun r5433 =>
  some r5433)
  else some false) fun o5425 =>
  some o5425
def M.i_copyInts (x5462 : List Int) : Option ((List Int)) :=
  Option.bind (gxApp 8 ([] : List Int) x5462) fun ap5479 =>
  some ap5479
def M.slices_Sort_114 (x5501 : List Int) : Option ((List Int)) :=
  bif decide (x5501.length < 4611686018427387904) then some (gxSortI x5501)
  else none
def M.i_isActive (x5540 : Slot) : Option (Bool) :=
  Option.bind (α := Bool) (bif x5540.State == 2 then some true
  else some (x5540.State == 3)) fun o5546 =>
  some o5546
def M.i_activeIrqs (x5515 : List Slot) : Option ((List Int)) :=
  Option.bind (whileM (σ := List Int × Int) (ρ := List Int) (fun s5663 =>
    bif decide (s5663.2 < (x5515.length : Int)) then (Option.bind (gxIdx x5515 s5663.2) fun y5685 =>
    Option.bind (M.i_isActive y5685) fun r5692 =>
    Option.bind (α := List Int) (bif r5692 then (Option.bind (gxApp 8 s5663.1 [y5685.Irq]) fun ap5728 =>
    some ap5728)
    else some s5663.1) fun o5712 =>
    some (.inl (o5712, w64 (s5663.2 + 1))))
    else some (.inr s5663.1)) gxFuel (([] : List Int), 0)) fun out5670 =>
  Option.bind (M.slices_Sort_114 out5670) fun r5744 =>
  some r5744
def M.slices_Equal_115 (x5760 : List Int) (x5765 : List Int) : Option (Bool) :=
  bif (x5760.length : Int) != (x5765.length : Int) then some false
  else (Option.bind (whileM (σ := Int) (ρ := (Unit) ⊕ (Bool)) (fun s5783 =>
    bif decide (s5783 < (x5760.length : Int)) then (Option.bind (gxIdx x5760 s5783) fun y5795 =>
    Option.bind (gxIdx x5765 s5783) fun y5796 =>
    bif y5795 != y5796 then some (.inr (.inr false))
    else some (.inl (w64 (s5783 + 1))))
    else some (.inr (.inl ()))) gxFuel 0) fun out5790 => Sum.elim (fun (o5793 : Unit) =>
  some true) (fun r => some r) out5790)
def M.i_priorityIn (x5811 : List Slot) (x5816 : Int) : Option (Int) :=
  Option.bind (M.i_findSlot x5811 x5816) fun r5817 =>
  Option.bind (gxIdx x5811 r5817) fun y5821 =>
  some y5821.Priority
def M.i_IsInterface (x4192 : Interface) : Option (Bool) :=
  Option.bind (α := Bool) (Option.bind (M.i_isMask x4192.Mask) fun r5448 =>
  bif !r5448 then some true
  else (Option.bind (M.i_IsQueue (⟨x4192.Queue.Slots, x4192.Queue.Waiting⟩ : Queue)) fun r5453 =>
  some (!r5453))) fun o5445 =>
  bif o5445 then some false
  else (Option.bind (M.i_copyInts x4192.Stack) fun r5487 =>
  Option.bind (M.slices_Sort_114 r5487) fun r5508 =>
  Option.bind (M.i_activeIrqs x4192.Queue.Slots) fun r5751 =>
  Option.bind (M.slices_Equal_115 r5508 r5751) fun r5804 =>
  bif !r5804 then some false
  else (Option.bind (whileM (σ := Int) (ρ := (Unit) ⊕ (Bool)) (fun s5848 =>
    bif decide (s5848 < (x4192.Stack.length : Int)) then (Option.bind (gxIdx x4192.Stack s5848) fun y5860 =>
    Option.bind (M.i_priorityIn x4192.Queue.Slots y5860) fun r5861 =>
    Option.bind (gxIdx x4192.Stack (w64 (s5848 - 1))) fun y5865 =>
    Option.bind (M.i_priorityIn x4192.Queue.Slots y5865) fun r5866 =>
    bif decide (r5861 ≥ r5866) then some (.inr (.inr false))
    else some (.inl (w64 (s5848 + 1))))
    else some (.inr (.inl ()))) gxFuel 1) fun out5855 => Sum.elim (fun (o5858 : Unit) =>
  some true) (fun r => some r) out5855))
def M.slices_Clone_118 (x5913 : List Waiter) : Option ((List Waiter)) :=
  Option.bind (gxApp 16 ([] : List Waiter) x5913) fun ap5934 =>
  some ap5934
def M.i_fitsRoutes_1 (x6200 : Waiter) (x6201 : List Route) (x6209 : Int) : Option (Bool) :=
  Option.bind (gxIdx x6201 x6200.Irq) fun y6217 =>
  some (!((y6217.Priority == x6200.Priority) && ((y6217.Target == x6209) && true)))
def M.slices_IndexFunc_166__i_fitsRoutes_1 (x6181 : List Waiter) (x6186 : List Route) (x6194 : Int) : Option (Int) :=
  Option.bind (whileM (σ := Int) (ρ := (Unit) ⊕ (Int)) (fun s6232 =>
    bif decide (s6232 < (x6181.length : Int)) then (Option.bind (gxIdx x6181 s6232) fun y6244 =>
    Option.bind (M.i_fitsRoutes_1 y6244 x6186 x6194) fun r6245 =>
    bif r6245 then some (.inr (.inr s6232))
    else some (.inl (w64 (s6232 + 1))))
    else some (.inr (.inl ()))) gxFuel 0) fun out6239 => Sum.elim (fun (o6242 : Unit) =>
  some (-1)) (fun r => some r) out6239
def M.slices_ContainsFunc_120__i_fitsRoutes_1 (x6164 : List Waiter) (x6169 : List Route) (x6177 : Int) : Option (Bool) :=
  Option.bind (M.slices_IndexFunc_166__i_fitsRoutes_1 x6164 x6169 x6177) fun r6254 =>
  some (decide (r6254 ≥ 0))
def M.i_fitsRoutes (x5882 : List Route) (x5887 : Int) (x5888 : Interface) : Option (Bool) :=
  Option.bind (M.slices_Clone_118 x5888.Queue.Waiting) fun r5942 =>
  Option.bind (whileM (σ := List Waiter × Int) (ρ := (List Waiter) ⊕ (Bool)) (fun s6078 =>
    bif decide (s6078.2 < (x5888.Queue.Slots.length : Int)) then (Option.bind (gxIdx x5888.Queue.Slots s6078.2) fun y6100 =>
    bif y6100.State == 3 then some (.inr (.inr false))
    else (Option.bind (α := List Waiter) (bif y6100.State != 0 then (Option.bind (M.i_waiterOf y6100) fun r6137 =>
    Option.bind (gxApp 16 s6078.1 [r6137]) fun ap6148 =>
    some ap6148)
    else some s6078.1) fun o6128 =>
    some (.inl (o6128, w64 (s6078.2 + 1)))))
    else some (.inr (.inl s6078.1))) gxFuel (r5942, 0)) fun out6085 => Sum.elim (fun (o6093 : List Waiter) =>
  Option.bind (M.slices_ContainsFunc_120__i_fitsRoutes_1 o6093 x5882 x5887) fun r6258 =>
  some (!r6258)) (fun r => some r) out6085
def M.i_IsMachine (x3985 : Machine) : Option (Bool) :=
  Option.bind (α := Bool) (Option.bind (M.i_areRoutes x3985.Routes (x3985.Cpus.length : Int)) fun r4161 =>
  bif !r4161 then some true
  else (bif (x3985.Enabled.length : Int) != 8 then some true
  else some ((x3985.Raised.length : Int) != 8))) fun o4158 =>
  bif o4158 then some false
  else (Option.bind (whileM (σ := Int) (ρ := (Unit) ⊕ (Bool)) (fun s6329 =>
    bif decide (s6329 < (x3985.Cpus.length : Int)) then (Option.bind (gxIdx x3985.Cpus s6329) fun y6341 =>
    Option.bind (α := Bool) (Option.bind (M.i_IsInterface (⟨y6341.Mask, y6341.Stack, (⟨y6341.Queue.Slots, y6341.Queue.Waiting⟩ : Queue)⟩ : Interface)) fun r6372 =>
    bif !r6372 then some true
    else (Option.bind (M.i_fitsRoutes x3985.Routes s6329 (⟨y6341.Mask, y6341.Stack, (⟨y6341.Queue.Slots, y6341.Queue.Waiting⟩ : Queue)⟩ : Interface)) fun r6377 =>
    some (!r6377))) fun o6369 =>
    bif o6369 then some (.inr (.inr false))
    else some (.inl (w64 (s6329 + 1))))
    else some (.inr (.inl ()))) gxFuel 0) fun out6336 => Sum.elim (fun (o6339 : Unit) =>
  some true) (fun r => some r) out6336)
def M.l_eqRoute (x6491 : Route) (x6492 : Route) : Option (Bool) :=
  bif x6491.Priority != x6492.Priority then some false
  else (bif x6491.Target != x6492.Target then some false
  else some true)
def M.l_eqRouteS (x6477 : List Route) (x6482 : List Route) : Option (Bool) :=
  bif (x6477.length : Int) != (x6482.length : Int) then some false
  else (Option.bind (whileM (σ := Int) (ρ := (Unit) ⊕ (Bool)) (fun s6520 =>
    bif decide (s6520 < (x6477.length : Int)) then (Option.bind (gxIdx x6477 s6520) fun y6532 =>
    Option.bind (gxIdx x6482 s6520) fun y6533 =>
    Option.bind (M.l_eqRoute y6532 y6533) fun r6534 =>
    bif !r6534 then some (.inr (.inr false))
    else some (.inl (w64 (s6520 + 1))))
    else some (.inr (.inl ()))) gxFuel 0) fun out6527 => Sum.elim (fun (o6530 : Unit) =>
  some true) (fun r => some r) out6527)
def M.l_eqBoolS (x6550 : List Bool) (x6555 : List Bool) : Option (Bool) :=
  bif (x6550.length : Int) != (x6555.length : Int) then some false
  else (Option.bind (whileM (σ := Int) (ρ := (Unit) ⊕ (Bool)) (fun s6573 =>
    bif decide (s6573 < (x6550.length : Int)) then (Option.bind (gxIdx x6550 s6573) fun y6585 =>
    Option.bind (gxIdx x6555 s6573) fun y6586 =>
    bif !(y6585 == y6586) then some (.inr (.inr false))
    else some (.inl (w64 (s6573 + 1))))
    else some (.inr (.inl ()))) gxFuel 0) fun out6580 => Sum.elim (fun (o6583 : Unit) =>
  some true) (fun r => some r) out6580)
def M.l_eqIntS (x6671 : List Int) (x6676 : List Int) : Option (Bool) :=
  bif (x6671.length : Int) != (x6676.length : Int) then some false
  else (Option.bind (whileM (σ := Int) (ρ := (Unit) ⊕ (Bool)) (fun s6694 =>
    bif decide (s6694 < (x6671.length : Int)) then (Option.bind (gxIdx x6671 s6694) fun y6706 =>
    Option.bind (gxIdx x6676 s6694) fun y6707 =>
    bif y6706 != y6707 then some (.inr (.inr false))
    else some (.inl (w64 (s6694 + 1))))
    else some (.inr (.inl ()))) gxFuel 0) fun out6701 => Sum.elim (fun (o6704 : Unit) =>
  some true) (fun r => some r) out6701)
def M.l_eqSlot (x6760 : Slot) (x6761 : Slot) : Option (Bool) :=
  bif x6760.State != x6761.State then some false
  else (bif x6760.Irq != x6761.Irq then some false
  else (bif x6760.Priority != x6761.Priority then some false
  else some true))
def M.l_eqSlotS (x6746 : List Slot) (x6751 : List Slot) : Option (Bool) :=
  bif (x6746.length : Int) != (x6751.length : Int) then some false
  else (Option.bind (whileM (σ := Int) (ρ := (Unit) ⊕ (Bool)) (fun s6790 =>
    bif decide (s6790 < (x6746.length : Int)) then (Option.bind (gxIdx x6746 s6790) fun y6802 =>
    Option.bind (gxIdx x6751 s6790) fun y6803 =>
    Option.bind (M.l_eqSlot y6802 y6803) fun r6804 =>
    bif !r6804 then some (.inr (.inr false))
    else some (.inl (w64 (s6790 + 1))))
    else some (.inr (.inl ()))) gxFuel 0) fun out6797 => Sum.elim (fun (o6800 : Unit) =>
  some true) (fun r => some r) out6797)
def M.l_eqWaiter (x6834 : Waiter) (x6835 : Waiter) : Option (Bool) :=
  bif x6834.Irq != x6835.Irq then some false
  else (bif x6834.Priority != x6835.Priority then some false
  else some true)
def M.l_eqWaiterS (x6820 : List Waiter) (x6825 : List Waiter) : Option (Bool) :=
  bif (x6820.length : Int) != (x6825.length : Int) then some false
  else (Option.bind (whileM (σ := Int) (ρ := (Unit) ⊕ (Bool)) (fun s6863 =>
    bif decide (s6863 < (x6820.length : Int)) then (Option.bind (gxIdx x6820 s6863) fun y6875 =>
    Option.bind (gxIdx x6825 s6863) fun y6876 =>
    Option.bind (M.l_eqWaiter y6875 y6876) fun r6877 =>
    bif !r6877 then some (.inr (.inr false))
    else some (.inl (w64 (s6863 + 1))))
    else some (.inr (.inl ()))) gxFuel 0) fun out6870 => Sum.elim (fun (o6873 : Unit) =>
  some true) (fun r => some r) out6870)
def M.l_eqQueue (x6720 : Queue) (x6729 : Queue) : Option (Bool) :=
  Option.bind (M.l_eqSlotS x6720.Slots x6729.Slots) fun r6815 =>
  bif !r6815 then some false
  else (Option.bind (M.l_eqWaiterS x6720.Waiting x6729.Waiting) fun r6888 =>
  bif !r6888 then some false
  else some true)
def M.l_eqInterface (x6636 : Interface) (x6649 : Interface) : Option (Bool) :=
  bif x6636.Mask != x6649.Mask then some false
  else (Option.bind (M.l_eqIntS x6636.Stack x6649.Stack) fun r6715 =>
  bif !r6715 then some false
  else (Option.bind (M.l_eqQueue (⟨x6636.Queue.Slots, x6636.Queue.Waiting⟩ : Queue) (⟨x6649.Queue.Slots, x6649.Queue.Waiting⟩ : Queue)) fun r6893 =>
  bif !r6893 then some false
  else some true))
def M.l_eqInterfaceS (x6604 : List Interface) (x6609 : List Interface) : Option (Bool) :=
  bif (x6604.length : Int) != (x6609.length : Int) then some false
  else (Option.bind (whileM (σ := Int) (ρ := (Unit) ⊕ (Bool)) (fun s6933 =>
    bif decide (s6933 < (x6604.length : Int)) then (Option.bind (gxIdx x6604 s6933) fun y6945 =>
    Option.bind (gxIdx x6609 s6933) fun y6955 =>
    Option.bind (M.l_eqInterface (⟨y6945.Mask, y6945.Stack, (⟨y6945.Queue.Slots, y6945.Queue.Waiting⟩ : Queue)⟩ : Interface) (⟨y6955.Mask, y6955.Stack, (⟨y6955.Queue.Slots, y6955.Queue.Waiting⟩ : Queue)⟩ : Interface)) fun r6965 =>
    bif !r6965 then some (.inr (.inr false))
    else some (.inl (w64 (s6933 + 1))))
    else some (.inr (.inl ()))) gxFuel 0) fun out6940 => Sum.elim (fun (o6943 : Unit) =>
  some true) (fun r => some r) out6940)
def M.l_eqMachine (x6435 : Machine) (x6452 : Machine) : Option (Bool) :=
  Option.bind (M.l_eqRouteS x6435.Routes x6452.Routes) fun r6545 =>
  bif !r6545 then some false
  else (Option.bind (M.l_eqBoolS x6435.Enabled x6452.Enabled) fun r6594 =>
  bif !r6594 then some false
  else (Option.bind (M.l_eqBoolS x6435.Raised x6452.Raised) fun r6599 =>
  bif !r6599 then some false
  else (Option.bind (M.l_eqInterfaceS x6435.Cpus x6452.Cpus) fun r6976 =>
  bif !r6976 then some false
  else some true)))
def M.l_FnExactIsMachine (x1 : Machine) : Option (Bool) :=
  Option.bind (M.l_szMachine x1 1048576) fun r221 =>
  bif decide (r221 < 0) then some true
  else (Option.bind (M.l_toMachine x1) fun r1063 =>
  Option.bind (M.s_IsMachine r1063) fun r3946 =>
  Option.bind (M.l_toMachine x1) fun r3950 =>
  Option.bind (M.i_IsMachine r3950) fun r6390 =>
  bif !(r6390 == r3946) then some false
  else (Option.bind (M.l_toMachine x1) fun r6397 =>
  Option.bind (M.l_eqMachine r3950 r6397) fun r6981 =>
  bif !r6981 then some false
  else some true))
def M.s_l21Cpu (x7065 : Machine) (x7082 : Int) : Option (Bool) :=
  Option.bind (α := Bool) (Option.bind (M.s_l21Good x7065) fun r7099 =>
  bif r7099 then (Option.bind (M.s_l1In x7082 0 (w64 ((x7065.Cpus.length : Int) - 1))) fun r7104 =>
  some r7104)
  else some false) fun o7096 =>
  some o7096
def M.s_l1Own (x7134 : List Int) : Option ((List Int)) :=
  Option.bind (gxApp 8 ([] : List Int) x7134) fun ap7151 =>
  some ap7151
def M.s_RunningOn (x7038 : Machine) (x7055 : Int) : Option ((List Int) × Bool) :=
  Option.bind (M.s_l21Cpu x7038 x7055) fun r7112 =>
  bif !r7112 then some (([] : List Int), false)
  else (Option.bind (gxIdx x7038.Cpus x7055) fun y7124 =>
  Option.bind (M.s_l1Own y7124.Stack) fun r7159 =>
  some (r7159, true))
def M.i_Machine_hasCpu (x7244 : Machine) (x7261 : Int) : Option (Bool) :=
  Option.bind (M.i_inside x7261 0 (w64 ((x7244.Cpus.length : Int) - 1))) fun r7266 =>
  some r7266
def M.i_RunningOn (x7212 : Machine) (x7229 : Int) : Option ((List Int) × Bool) :=
  Option.bind (α := Bool) (Option.bind (M.i_IsMachine x7212) fun r7277 =>
  bif !r7277 then some true
  else (Option.bind (M.i_Machine_hasCpu x7212 x7229) fun r7282 =>
  some (!r7282))) fun o7274 =>
  bif o7274 then some (([] : List Int), false)
  else (Option.bind (gxIdx x7212.Cpus x7229) fun y7292 =>
  Option.bind (M.i_copyInts y7292.Stack) fun r7302 =>
  some (r7302, true))
def M.l_markRouteS (x7415 : List Route) (x7421 : Int) : Option (Int × (List Route)) :=
  Option.bind (whileM (σ := Int × Int × List Route) (ρ := Int × List Route) (fun s7448 =>
    bif decide (s7448.2.1 < (s7448.2.2.length : Int)) then (Option.bind (gxIdx s7448.2.2 s7448.2.1) fun y7466 =>
    Option.bind (gxIdx (s7448.2.2.set s7448.2.1.toNat (⟨s7448.1, y7466.Target⟩ : Route)) s7448.2.1) fun y7471 =>
    some (.inl (w64 ((w64 (s7448.1 + 1)) + 1), w64 (s7448.2.1 + 1), ((s7448.2.2.set s7448.2.1.toNat (⟨s7448.1, y7466.Target⟩ : Route)).set s7448.2.1.toNat (⟨y7471.Priority, w64 (s7448.1 + 1)⟩ : Route)))))
    else some (.inr (s7448.1, s7448.2.2))) gxFuel (x7421, 0, x7415)) fun out7455 =>
  some (out7455.1, out7455.2)
def M.l_markBoolS (x7488 : List Bool) (x7494 : Int) : Option (Int × (List Bool)) :=
  Option.bind (whileM (σ := Int × Int × List Bool) (ρ := Int × List Bool) (fun s7511 =>
    bif decide (s7511.2.1 < (s7511.2.2.length : Int)) then (Option.bind (gxIdx s7511.2.2 s7511.2.1) fun y7529 =>
    some (.inl (w64 (s7511.1 + 1), w64 (s7511.2.1 + 1), (s7511.2.2.set s7511.2.1.toNat ((s7511.1.tmod 3) == 0)))))
    else some (.inr (s7511.1, s7511.2.2))) gxFuel (x7494, 0, x7488)) fun out7518 =>
  some (out7518.1, out7518.2)
def M.l_markIntS (x7590 : List Int) (x7596 : Int) : Option (Int × (List Int)) :=
  Option.bind (whileM (σ := Int × Int × List Int) (ρ := Int × List Int) (fun s7613 =>
    bif decide (s7613.2.1 < (s7613.2.2.length : Int)) then (Option.bind (gxIdx s7613.2.2 s7613.2.1) fun y7631 =>
    some (.inl (w64 (s7613.1 + 1), w64 (s7613.2.1 + 1), (s7613.2.2.set s7613.2.1.toNat s7613.1))))
    else some (.inr (s7613.1, s7613.2.2))) gxFuel (x7596, 0, x7590)) fun out7620 =>
  some (out7620.1, out7620.2)
def M.l_markSlotS (x7691 : List Slot) (x7697 : Int) : Option (Int × (List Slot)) :=
  Option.bind (whileM (σ := Int × Int × List Slot) (ρ := Int × List Slot) (fun s7734 =>
    bif decide (s7734.2.1 < (s7734.2.2.length : Int)) then (Option.bind (gxIdx s7734.2.2 s7734.2.1) fun y7752 =>
    Option.bind (gxIdx (s7734.2.2.set s7734.2.1.toNat (⟨s7734.1, y7752.Irq, y7752.Priority⟩ : Slot)) s7734.2.1) fun y7757 =>
    Option.bind (gxIdx ((s7734.2.2.set s7734.2.1.toNat (⟨s7734.1, y7752.Irq, y7752.Priority⟩ : Slot)).set s7734.2.1.toNat (⟨y7757.State, w64 (s7734.1 + 1), y7757.Priority⟩ : Slot)) s7734.2.1) fun y7762 =>
    some (.inl (w64 ((w64 ((w64 (s7734.1 + 1)) + 1)) + 1), w64 (s7734.2.1 + 1), (((s7734.2.2.set s7734.2.1.toNat (⟨s7734.1, y7752.Irq, y7752.Priority⟩ : Slot)).set s7734.2.1.toNat (⟨y7757.State, w64 (s7734.1 + 1), y7757.Priority⟩ : Slot)).set s7734.2.1.toNat (⟨y7762.State, y7762.Irq, w64 ((w64 (s7734.1 + 1)) + 1)⟩ : Slot)))))
    else some (.inr (s7734.1, s7734.2.2))) gxFuel (x7697, 0, x7691)) fun out7741 =>
  some (out7741.1, out7741.2)
def M.l_markWaiterS (x7822 : List Waiter) (x7828 : Int) : Option (Int × (List Waiter)) :=
  Option.bind (whileM (σ := Int × Int × List Waiter) (ρ := Int × List Waiter) (fun s7855 =>
    bif decide (s7855.2.1 < (s7855.2.2.length : Int)) then (Option.bind (gxIdx s7855.2.2 s7855.2.1) fun y7873 =>
    Option.bind (gxIdx (s7855.2.2.set s7855.2.1.toNat (⟨s7855.1, y7873.Priority⟩ : Waiter)) s7855.2.1) fun y7878 =>
    some (.inl (w64 ((w64 (s7855.1 + 1)) + 1), w64 (s7855.2.1 + 1), ((s7855.2.2.set s7855.2.1.toNat (⟨s7855.1, y7873.Priority⟩ : Waiter)).set s7855.2.1.toNat (⟨y7878.Irq, w64 (s7855.1 + 1)⟩ : Waiter)))))
    else some (.inr (s7855.1, s7855.2.2))) gxFuel (x7828, 0, x7822)) fun out7862 =>
  some (out7862.1, out7862.2)
def M.l_markInterfaceS (x7554 : List Interface) (x7561 : Int) : Option (Int × (List Interface)) :=
  Option.bind (whileM (σ := Int × Int × List Interface) (ρ := Int × List Interface) (fun s8101 =>
    bif decide (s8101.2.1 < (s8101.2.2.length : Int)) then (Option.bind (gxIdx s8101.2.2 s8101.2.1) fun y8121 =>
    Option.bind (gxIdx (s8101.2.2.set s8101.2.1.toNat (⟨s8101.1, y8121.Stack, (⟨y8121.Queue.Slots, y8121.Queue.Waiting⟩ : Queue)⟩ : Interface)) s8101.2.1) fun y8136 =>
    Option.bind (M.l_markIntS y8136.Stack (w64 (s8101.1 + 1))) fun r8146 =>
    Option.bind (gxIdx ((s8101.2.2.set s8101.2.1.toNat (⟨s8101.1, y8121.Stack, (⟨y8121.Queue.Slots, y8121.Queue.Waiting⟩ : Queue)⟩ : Interface)).set s8101.2.1.toNat (⟨y8136.Mask, r8146.2, (⟨y8136.Queue.Slots, y8136.Queue.Waiting⟩ : Queue)⟩ : Interface)) s8101.2.1) fun y8187 =>
    Option.bind (M.l_markSlotS y8187.Queue.Slots r8146.1) fun r8197 =>
    Option.bind (gxIdx (((s8101.2.2.set s8101.2.1.toNat (⟨s8101.1, y8121.Stack, (⟨y8121.Queue.Slots, y8121.Queue.Waiting⟩ : Queue)⟩ : Interface)).set s8101.2.1.toNat (⟨y8136.Mask, r8146.2, (⟨y8136.Queue.Slots, y8136.Queue.Waiting⟩ : Queue)⟩ : Interface)).set s8101.2.1.toNat (⟨y8187.Mask, y8187.Stack, (⟨r8197.2, y8187.Queue.Waiting⟩ : Queue)⟩ : Interface)) s8101.2.1) fun y8238 =>
    Option.bind (M.l_markWaiterS y8238.Queue.Waiting r8197.1) fun r8248 =>
    some (.inl (r8248.1, w64 (s8101.2.1 + 1), ((((s8101.2.2.set s8101.2.1.toNat (⟨s8101.1, y8121.Stack, (⟨y8121.Queue.Slots, y8121.Queue.Waiting⟩ : Queue)⟩ : Interface)).set s8101.2.1.toNat (⟨y8136.Mask, r8146.2, (⟨y8136.Queue.Slots, y8136.Queue.Waiting⟩ : Queue)⟩ : Interface)).set s8101.2.1.toNat (⟨y8187.Mask, y8187.Stack, (⟨r8197.2, y8187.Queue.Waiting⟩ : Queue)⟩ : Interface)).set s8101.2.1.toNat (⟨y8238.Mask, y8238.Stack, (⟨y8238.Queue.Slots, r8248.2⟩ : Queue)⟩ : Interface)))))
    else some (.inr (s8101.1, s8101.2.2))) gxFuel (x7561, 0, x7554)) fun out8108 =>
  some (out8108.1, out8108.2)
def M.l_markMachine (x7383 : Machine) (x7405 : Int) : Option (Int × (List Route) × (List Bool) × (List Bool) × (List Interface)) :=
  Option.bind (M.l_markRouteS x7383.Routes x7405) fun r7480 =>
  Option.bind (M.l_markBoolS x7383.Enabled r7480.1) fun r7538 =>
  Option.bind (M.l_markBoolS x7383.Raised r7538.1) fun r7546 =>
  Option.bind (M.l_markInterfaceS x7383.Cpus r7546.1) fun r8293 =>
  some (r8293.1, r7480.2, r7538.2, r7546.2, r8293.2)
def M.l_heldIntS (x8347 : List Int) (x8352 : Int) : Option (Int) :=
  Option.bind (whileM (σ := Int × Int) (ρ := (Int) ⊕ (Int)) (fun s8359 =>
    bif decide (s8359.2 < (x8347.length : Int)) then (Option.bind (gxIdx x8347 s8359.2) fun y8371 =>
    bif y8371 != s8359.1 then some (.inr (.inr (-1)))
    else some (.inl (w64 (s8359.1 + 1), w64 (s8359.2 + 1))))
    else some (.inr (.inl s8359.1))) gxFuel (x8352, 0)) fun out8366 => Sum.elim (fun (o8369 : Int) =>
  some o8369) (fun r => some r) out8366
def M.l_FnExactRunningOn (x6986 : Machine) (x7003 : Int) : Option (Bool) :=
  Option.bind (M.l_szMachine x6986 1048576) fun r7008 =>
  bif decide (r7008 < 0) then some true
  else (Option.bind (M.l_toMachine x6986) fun r7013 =>
  Option.bind (M.s_RunningOn r7013 x7003) fun r7168 =>
  Option.bind (M.l_toMachine x6986) fun r7177 =>
  Option.bind (M.i_RunningOn r7177 x7003) fun r7311 =>
  Option.bind (α := Bool) (Option.bind (M.l_eqIntS r7311.1 r7168.1) fun r7328 =>
  bif !r7328 then some true
  else some (!(r7311.2 == r7168.2))) fun o7325 =>
  bif o7325 then some false
  else (Option.bind (M.l_toMachine x6986) fun r7340 =>
  Option.bind (M.l_eqMachine r7177 r7340) fun r7378 =>
  bif !r7378 then some false
  else (Option.bind (M.l_markMachine r7177 1) fun r8302 =>
  Option.bind (α := Bool) (bif decide (r8302.1 < 0) then some true
  else (Option.bind (M.l_eqIntS r7311.1 r7168.1) fun r8330 =>
  bif !r8330 then some true
  else some (!(r7311.2 == r7168.2)))) fun o8326 =>
  bif o8326 then some false
  else (Option.bind (M.l_markIntS r7311.1 1) fun r8340 =>
  Option.bind (M.l_heldIntS r8340.2 1) fun r8377 =>
  bif decide (r8377 < 0) then some false
  else (bif r8377 != r8340.1 then some false
  else (Option.bind (M.l_toMachine x6986) fun r8383 =>
  Option.bind (M.i_RunningOn r8383 x7003) fun r8408 =>
  Option.bind (α := Bool) (Option.bind (M.l_eqIntS r8408.1 r7168.1) fun r8425 =>
  bif !r8425 then some true
  else some (!(r8408.2 == r7168.2))) fun o8422 =>
  bif o8422 then some false
  else (Option.bind (M.l_heldIntS r8340.2 1) fun r8435 =>
  bif decide (r8435 < 0) then some false
  else (bif r8435 != r8340.1 then some false
  else some true))))))))
end Go.Proofs.YtllhajkgkghhdaaGreat
