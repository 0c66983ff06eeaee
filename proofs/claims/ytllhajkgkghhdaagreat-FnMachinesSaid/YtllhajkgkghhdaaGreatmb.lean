/- Part of a proof: what its last text rests on. -/
import Derived.Lib.BitFns
import Derived.Test.YtllhajkgkghhdaaGreatProg
import Derived.Test.YtllhajkgkghhdaaGreatSh
import Derived.Test.YtllhajkgkghhdaaGreatma
set_option linter.unusedVariables false
set_option maxRecDepth 100000
set_option maxHeartbeats 4000000
namespace Go.Proofs.YtllhajkgkghhdaaGreat
open Go.Gx
structure MachStep where
  Kind : Int
  Irq : Int
  Cpu : Int
  Value : Int
structure l1Cur where
  code : List Int
  at_ : Int
  seed : Int
structure Slot where
  State : Int
  Irq : Int
  Priority : Int
def encSlot : Enc Slot := ⟨fun x => [.int .i64 x.State, .int .i64 x.Irq, .int .i64 x.Priority], 3, fun _ => rfl, by simp [Value.oneCell']⟩
structure Route where
  Priority : Int
  Target : Int
def encRoute : Enc Route := ⟨fun x => [.int .i64 x.Priority, .int .i64 x.Target], 2, fun _ => rfl, by simp [Value.oneCell']⟩
structure Waiter where
  Irq : Int
  Priority : Int
def encWaiter : Enc Waiter := ⟨fun x => [.int .i64 x.Irq, .int .i64 x.Priority], 2, fun _ => rfl, by simp [Value.oneCell']⟩
structure Queue where
  Slots : List Slot
  Waiting : List Waiter
structure Interface where
  Mask : Int
  Stack : List Int
  Queue : Queue
def deepInterface : Deep Interface := ⟨⟨fun z => [.int .i64 z.1.Mask, .slice ((z.2 0).1) z.1.Stack.length ((z.2 0).2), .slice ((z.2 1).1) z.1.Queue.Slots.length ((z.2 1).2), .slice ((z.2 2).1) z.1.Queue.Waiting.length ((z.2 2).2)], 4, fun _ => rfl, by simp [Value.oneCell']⟩, fun z => [⟨Int, Gx.encI, z.1.Stack, (z.2 0).1, (z.2 0).2⟩, ⟨Slot, encSlot, z.1.Queue.Slots, (z.2 1).1, (z.2 1).2⟩, ⟨Waiter, encWaiter, z.1.Queue.Waiting, (z.2 2).1, (z.2 2).2⟩]⟩
structure Machine where
  Routes : List Route
  Enabled : List Bool
  Raised : List Bool
  Cpus : List Interface
def M.s_l1In (x1142 : Int) (x1143 : Int) (x1144 : Int) : Option (Bool) :=
  Option.bind (α := Bool) (bif decide (x1142 ≥ x1143) then some (decide (x1142 ≤ x1144))
  else some false) fun o1146 =>
  some o1146
def M.s_l6Prio (x1141 : Int) : Option (Bool) :=
  Option.bind (M.s_l1In x1141 0 15) fun r1154 =>
  some r1154
def M.s_l21Routes (x1133 : List Route) (x1138 : Int) : Option (Bool) :=
  Option.bind (whileM (σ := Int) (ρ := (Unit) ⊕ (Bool)) (fun s1218 =>
    bif decide (s1218 < (x1133.length : Int)) then (Option.bind (α := Bool) (Option.bind (gxIdx x1133 s1218) fun y1244 =>
    Option.bind (M.s_l6Prio y1244.Priority) fun r1245 =>
    bif !r1245 then some true
    else (Option.bind (gxIdx x1133 s1218) fun y1250 =>
    Option.bind (M.s_l1In y1250.Target 0 (w64 (x1138 - 1))) fun r1251 =>
    some (!r1251))) fun o1241 =>
    bif o1241 then some (.inr (.inr false))
    else some (.inl (w64 (s1218 + 1))))
    else some (.inr (.inl ()))) gxFuel 0) fun out1225 => Sum.elim (fun (o1228 : Unit) =>
  Option.bind (α := Bool) (Option.bind (M.s_l1In x1138 1 2) fun r1272 =>
  bif r1272 then some ((x1133.length : Int) == 8)
  else some false) fun o1269 =>
  some o1269) (fun r => some r) out1225
def M.s_l6Irq (x1374 : Int) : Option (Bool) :=
  Option.bind (M.s_l1In x1374 0 7) fun r1375 =>
  some r1375
def M.s_l8Find (x1389 : List Slot) (x1394 : Int) : Option (Int) :=
  Option.bind (whileM (σ := Int) (ρ := (Unit) ⊕ (Int)) (fun s1425 =>
    bif decide (s1425 < (x1389.length : Int)) then (Option.bind (α := Bool) (Option.bind (gxIdx x1389 s1425) fun y1443 =>
    bif y1443.State != 0 then (Option.bind (gxIdx x1389 s1425) fun y1445 =>
    some (y1445.Irq == x1394))
    else some false) fun o1440 =>
    bif o1440 then some (.inr (.inr s1425))
    else some (.inl (w64 (s1425 + 1))))
    else some (.inr (.inl ()))) gxFuel 0) fun out1432 => Sum.elim (fun (o1435 : Unit) =>
  some (-1)) (fun r => some r) out1432
def M.s_l8Less (x1484 : Int) (x1485 : Int) (x1486 : Int) (x1487 : Int) : Option (Bool) :=
  Option.bind (α := Bool) (bif decide (x1484 < x1486) then some true
  else (bif x1484 == x1486 then some (decide (x1485 < x1487))
  else some false)) fun o1490 =>
  some o1490
def M.s_l8Good (x1797 : List Slot) : Option (Bool) :=
  Option.bind (whileM (σ := Int) (ρ := (Unit) ⊕ (Bool)) (fun s1958 =>
    bif decide (s1958 < (x1797.length : Int)) then (Option.bind (gxIdx x1797 s1958) fun y1970 =>
    Option.bind (α := Bool) (Option.bind (M.s_l1In y1970.State 0 3) fun r1994 =>
    bif !r1994 then some true
    else (Option.bind (M.s_l6Irq y1970.Irq) fun r1999 =>
    bif !r1999 then some true
    else (Option.bind (M.s_l6Prio y1970.Priority) fun r2004 =>
    some (!r2004)))) fun o1991 =>
    bif o1991 then some (.inr (.inr false))
    else (Option.bind (α := Bool) (bif y1970.State == 0 then (bif y1970.Irq != 0 then some true
    else (bif y1970.Priority != 0 then some true
    else (bif y1970.State != 0 then (Option.bind (M.s_l8Find x1797 y1970.Irq) fun r2033 =>
    some (r2033 != s1958))
    else some false)))
    else (bif y1970.State != 0 then (Option.bind (M.s_l8Find x1797 y1970.Irq) fun r2038 =>
    some (r2038 != s1958))
    else some false)) fun o2026 =>
    bif o2026 then some (.inr (.inr false))
    else some (.inl (w64 (s1958 + 1)))))
    else some (.inr (.inl ()))) gxFuel 0) fun out1965 => Sum.elim (fun (o1968 : Unit) =>
  some ((x1797.length : Int) == 4)) (fun r => some r) out1965
def M.s_l9Waiting (x1347 : List Slot) (x1352 : List Waiter) : Option (Bool) :=
  Option.bind (whileM (σ := Int) (ρ := (Unit) ⊕ (Bool)) (fun s1669 =>
    Option.bind (α := Bool) (bif decide (s1669 < (x1352.length : Int)) then some (decide (s1669 ≤ 8))
    else some false) fun o1681 =>
    bif o1681 then (Option.bind (gxIdx x1352 s1669) fun y1690 =>
    Option.bind (α := Bool) (Option.bind (M.s_l6Irq y1690.Irq) fun r1714 =>
    bif !r1714 then some true
    else (Option.bind (M.s_l6Prio y1690.Priority) fun r1719 =>
    bif !r1719 then some true
    else (Option.bind (M.s_l8Find x1347 y1690.Irq) fun r1724 =>
    some (decide (r1724 ≥ 0))))) fun o1711 =>
    bif o1711 then some (.inr (.inr false))
    else (Option.bind (α := Bool) (bif decide (s1669 > 0) then (Option.bind (gxIdx x1352 (w64 (s1669 - 1))) fun y1748 =>
    Option.bind (gxIdx x1352 (w64 (s1669 - 1))) fun y1749 =>
    Option.bind (M.s_l8Less y1748.Priority y1749.Irq y1690.Priority y1690.Irq) fun r1750 =>
    some (!r1750))
    else some false) fun o1744 =>
    bif o1744 then some (.inr (.inr false))
    else (Option.bind (whileM (σ := Int) (ρ := (Unit) ⊕ (Bool)) (fun s1773 =>
      bif decide (s1773 < s1669) then (Option.bind (gxIdx x1352 s1773) fun y1785 =>
      bif y1785.Irq == y1690.Irq then some (.inr (.inr false))
      else some (.inl (w64 (s1773 + 1))))
      else some (.inr (.inl ()))) gxFuel 0) fun out1780 => Sum.elim (fun (o1783 : Unit) =>
    some (.inl (w64 (s1669 + 1)))) (fun r => some (.inr (.inr r))) out1780)))
    else some (.inr (.inl ()))) gxFuel 0) fun out1676 => Sum.elim (fun (o1679 : Unit) =>
  Option.bind (α := Bool) (Option.bind (M.s_l8Good x1347) fun r2059 =>
  bif r2059 then some (decide ((x1352.length : Int) ≤ 8))
  else some false) fun o2056 =>
  some o2056) (fun r => some r) out1676
def M.s_l8Free (x2087 : List Slot) : Option (Int) :=
  Option.bind (whileM (σ := Int) (ρ := (Unit) ⊕ (Int)) (fun s2098 =>
    bif decide (s2098 < (x2087.length : Int)) then (Option.bind (gxIdx x2087 s2098) fun y2110 =>
    bif y2110.State == 0 then some (.inr (.inr s2098))
    else some (.inl (w64 (s2098 + 1))))
    else some (.inr (.inl ()))) gxFuel 0) fun out2105 => Sum.elim (fun (o2108 : Unit) =>
  some (-1)) (fun r => some r) out2105
def M.s_l8Best (x2121 : List Slot) (x2126 : Bool) : Option (Int) :=
  Option.bind (whileM (σ := Int × Int) (ρ := Int) (fun s2519 =>
    bif decide (s2519.2 < (x2121.length : Int)) then (Option.bind (α := Int) (Option.bind (gxIdx x2121 s2519.2) fun y2628 =>
    bif y2628.State != 1 then some s2519.1
    else (Option.bind (α := Bool) (bif decide (s2519.1 < 0) then some true
    else (bif x2126 then (Option.bind (gxIdx x2121 s2519.1) fun y2678 =>
    Option.bind (gxIdx x2121 s2519.1) fun y2679 =>
    Option.bind (M.s_l8Less y2628.Priority y2628.Irq y2678.Priority y2679.Irq) fun r2680 =>
    bif r2680 then some true
    else (bif !x2126 then (Option.bind (gxIdx x2121 s2519.1) fun y2688 =>
    Option.bind (gxIdx x2121 s2519.1) fun y2689 =>
    Option.bind (M.s_l8Less y2688.Priority y2689.Irq y2628.Priority y2628.Irq) fun r2690 =>
    some r2690)
    else some false))
    else (bif !x2126 then (Option.bind (gxIdx x2121 s2519.1) fun y2699 =>
    Option.bind (gxIdx x2121 s2519.1) fun y2700 =>
    Option.bind (M.s_l8Less y2699.Priority y2700.Irq y2628.Priority y2628.Irq) fun r2701 =>
    some r2701)
    else some false))) fun o2671 =>
    Option.bind (α := Int) (bif o2671 then some s2519.2
    else some s2519.1) fun o2714 =>
    some o2714)) fun o2625 =>
    some (.inl (o2625, w64 (s2519.2 + 1))))
    else some (.inr s2519.1)) gxFuel ((-1), 0)) fun out2526 =>
  some out2526
def M.s_l9Settled (x2073 : Queue) : Option (Bool) :=
  bif (x2073.Waiting.length : Int) == 0 then some true
  else (Option.bind (M.s_l8Free x2073.Slots) fun r2116 =>
  bif decide (r2116 ≥ 0) then some false
  else (Option.bind (M.s_l8Best x2073.Slots false) fun r2730 =>
  Option.bind (α := Bool) (bif decide (r2730 < 0) then some true
  else (Option.bind (gxIdx x2073.Slots r2730) fun y2753 =>
  Option.bind (gxIdx x2073.Slots r2730) fun y2754 =>
  Option.bind (gxIdx x2073.Waiting 0) fun y2755 =>
  Option.bind (gxIdx x2073.Waiting 0) fun y2756 =>
  Option.bind (M.s_l8Less y2753.Priority y2754.Irq y2755.Priority y2756.Irq) fun r2757 =>
  some r2757)) fun o2747 =>
  some o2747))
def M.s_l9Good (x1334 : Queue) : Option (Bool) :=
  Option.bind (α := Bool) (Option.bind (M.s_l9Waiting x1334.Slots x1334.Waiting) fun r2774 =>
  bif r2774 then (Option.bind (M.s_l9Settled x1334) fun r2779 =>
  some r2779)
  else some false) fun o2771 =>
  some o2771
def M.s_l1Put (x2841 : List Int) (x2847 : Int) : Option ((List Int)) :=
  Option.bind (whileM (σ := Int) (ρ := Int) (fun s2877 =>
    Option.bind (α := Bool) (bif decide (s2877 < (x2841.length : Int)) then (Option.bind (gxIdx x2841 s2877) fun y2894 =>
    some (decide (y2894 < x2847)))
    else some false) fun o2890 =>
    bif o2890 then some (.inl (w64 (s2877 + 1)))
    else some (.inr s2877)) gxFuel 0) fun out2884 =>
  Option.bind (α := Bool) (bif decide (out2884 < (x2841.length : Int)) then (Option.bind (gxIdx x2841 out2884) fun y2910 =>
  some (y2910 == x2847))
  else some false) fun o2906 =>
  bif o2906 then some x2841
  else (Option.bind (gxSlice x2841 0 out2884) fun ys2923 =>
  Option.bind (gxApp 8 ([] : List Int) ys2923) fun ap2925 =>
  Option.bind (gxApp 8 ap2925 [x2847]) fun ap2936 =>
  Option.bind (gxSlice x2841 out2884 (x2841.length : Int)) fun ys2942 =>
  Option.bind (gxApp 8 ap2936 ys2942) fun ap2991 =>
  some ap2991)
def M.s_l8Active (x2808 : List Slot) : Option ((List Int)) :=
  Option.bind (whileM (σ := List Int × Int) (ρ := List Int) (fun s3084 =>
    bif decide (s3084.2 < (x2808.length : Int)) then (Option.bind (α := Bool) (Option.bind (gxIdx x2808 s3084.2) fun y3112 =>
    bif y3112.State == 2 then some true
    else (Option.bind (gxIdx x2808 s3084.2) fun y3114 =>
    some (y3114.State == 3))) fun o3109 =>
    Option.bind (α := List Int) (bif o3109 then (Option.bind (gxIdx x2808 s3084.2) fun y3139 =>
    Option.bind (M.s_l1Put s3084.1 y3139.Irq) fun r3140 =>
    some r3140)
    else some s3084.1) fun o3130 =>
    some (.inl (o3130, w64 (s3084.2 + 1))))
    else some (.inr s3084.1)) gxFuel (([] : List Int), 0)) fun out3091 =>
  some out3091
def M.s_l1Has (x3168 : List Int) (x3173 : Int) : Option (Bool) :=
  Option.bind (whileM (σ := Int) (ρ := (Unit) ⊕ (Bool)) (fun s3180 =>
    bif decide (s3180 < (x3168.length : Int)) then (Option.bind (gxIdx x3168 s3180) fun y3192 =>
    bif y3192 == x3173 then some (.inr (.inr true))
    else some (.inl (w64 (s3180 + 1))))
    else some (.inr (.inl ()))) gxFuel 0) fun out3187 => Sum.elim (fun (o3190 : Unit) =>
  some false) (fun r => some r) out3187
def M.s_l10Level (x3241 : Queue) (x3250 : Int) : Option (Int) :=
  Option.bind (M.s_l8Find x3241.Slots x3250) fun r3255 =>
  Option.bind (gxIdx x3241.Slots r3255) fun y3259 =>
  some y3259.Priority
def M.s_l10Good (x1312 : Interface) : Option (Bool) :=
  Option.bind (α := Bool) (Option.bind (M.s_l1In x1312.Mask 0 16) fun r2794 =>
  bif !r2794 then some true
  else (Option.bind (M.s_l9Good (⟨x1312.Queue.Slots, x1312.Queue.Waiting⟩ : Queue)) fun r2799 =>
  some (!r2799))) fun o2791 =>
  bif o2791 then some false
  else (Option.bind (M.s_l8Active x1312.Queue.Slots) fun r3157 =>
  Option.bind (whileM (σ := Int) (ρ := (Unit) ⊕ (Bool)) (fun s3379 =>
    bif decide (s3379 < (x1312.Stack.length : Int)) then (Option.bind (α := Bool) (Option.bind (gxIdx x1312.Stack s3379) fun y3411 =>
    Option.bind (M.s_l1Has r3157 y3411) fun r3412 =>
    bif !r3412 then some true
    else (Option.bind (gxSlice x1312.Stack 0 s3379) fun ys3419 =>
    Option.bind (gxIdx x1312.Stack s3379) fun y3421 =>
    Option.bind (M.s_l1Has ys3419 y3421) fun r3422 =>
    some r3422)) fun o3408 =>
    bif o3408 then some (.inr (.inr false))
    else (Option.bind (α := Bool) (bif decide (s3379 > 0) then (Option.bind (gxIdx x1312.Stack (w64 (s3379 - 1))) fun y3452 =>
    Option.bind (M.s_l10Level (⟨x1312.Queue.Slots, x1312.Queue.Waiting⟩ : Queue) y3452) fun r3453 =>
    Option.bind (gxIdx x1312.Stack s3379) fun y3457 =>
    Option.bind (M.s_l10Level (⟨x1312.Queue.Slots, x1312.Queue.Waiting⟩ : Queue) y3457) fun r3458 =>
    some (decide (r3453 ≤ r3458)))
    else some false) fun o3448 =>
    bif o3448 then some (.inr (.inr false))
    else some (.inl (w64 (s3379 + 1)))))
    else some (.inr (.inl ()))) gxFuel 0) fun out3386 => Sum.elim (fun (o3389 : Unit) =>
  some ((x1312.Stack.length : Int) == (r3157.length : Int))) (fun r => some r) out3386)
def M.s_l21Queue (x3488 : List Route) (x3493 : Queue) (x3502 : Int) : Option (Bool) :=
  Option.bind (whileM (σ := Int) (ρ := (Unit) ⊕ (Bool)) (fun s3591 =>
    bif decide (s3591 < (x3493.Slots.length : Int)) then (Option.bind (gxIdx x3493.Slots s3591) fun y3603 =>
    Option.bind (α := Bool) (bif y3603.State == 3 then some true
    else (bif y3603.State != 0 then (Option.bind (gxIdx x3488 y3603.Irq) fun y3630 =>
    bif y3630.Target != x3502 then some true
    else (Option.bind (gxIdx x3488 y3603.Irq) fun y3634 =>
    some (y3634.Priority != y3603.Priority)))
    else some false)) fun o3623 =>
    bif o3623 then some (.inr (.inr false))
    else some (.inl (w64 (s3591 + 1))))
    else some (.inr (.inl ()))) gxFuel 0) fun out3598 => Sum.elim (fun (o3601 : Unit) =>
  Option.bind (whileM (σ := Int) (ρ := (Unit) ⊕ (Bool)) (fun s3708 =>
    bif decide (s3708 < (x3493.Waiting.length : Int)) then (Option.bind (gxIdx x3493.Waiting s3708) fun y3720 =>
    Option.bind (α := Bool) (Option.bind (gxIdx x3488 y3720.Irq) fun y3737 =>
    bif y3737.Target != x3502 then some true
    else (Option.bind (gxIdx x3488 y3720.Irq) fun y3741 =>
    some (y3741.Priority != y3720.Priority))) fun o3734 =>
    bif o3734 then some (.inr (.inr false))
    else some (.inl (w64 (s3708 + 1))))
    else some (.inr (.inl ()))) gxFuel 0) fun out3715 => Sum.elim (fun (o3718 : Unit) =>
  some true) (fun r => some r) out3715) (fun r => some r) out3598
def M.s_l21Good (x1112 : Machine) : Option (Bool) :=
  Option.bind (α := Bool) (Option.bind (M.s_l21Routes x1112.Routes (x1112.Cpus.length : Int)) fun r1290 =>
  bif !r1290 then some true
  else (bif (x1112.Enabled.length : Int) != 8 then some true
  else some ((x1112.Raised.length : Int) != 8))) fun o1287 =>
  bif o1287 then some false
  else (Option.bind (whileM (σ := Int) (ρ := (Unit) ⊕ (Bool)) (fun s3863 =>
    bif decide (s3863 < (x1112.Cpus.length : Int)) then (Option.bind (α := Bool) (Option.bind (gxIdx x1112.Cpus s3863) fun y3907 =>
    Option.bind (M.s_l10Good (⟨y3907.Mask, y3907.Stack, (⟨y3907.Queue.Slots, y3907.Queue.Waiting⟩ : Queue)⟩ : Interface)) fun r3917 =>
    bif !r3917 then some true
    else (Option.bind (gxIdx x1112.Cpus s3863) fun y3924 =>
    Option.bind (M.s_l21Queue x1112.Routes (⟨y3924.Queue.Slots, y3924.Queue.Waiting⟩ : Queue) s3863) fun r3930 =>
    some (!r3930))) fun o3904 =>
    bif o3904 then some (.inr (.inr false))
    else some (.inl (w64 (s3863 + 1))))
    else some (.inr (.inl ()))) gxFuel 0) fun out3870 => Sum.elim (fun (o3873 : Unit) =>
  some true) (fun r => some r) out3870)
def M.s_IsMachine (x1091 : Machine) : Option (Bool) :=
  Option.bind (M.s_l21Good x1091) fun r3945 =>
  some r3945
def M.i_inside (x4019 : Int) (x4020 : Int) (x4021 : Int) : Option (Bool) :=
  Option.bind (α := Bool) (bif decide (x4019 ≥ x4020) then some (decide (x4019 ≤ x4021))
  else some false) fun o4023 =>
  some o4023
def M.i_isPriority (x4066 : Int) : Option (Bool) :=
  Option.bind (M.i_inside x4066 0 15) fun r4067 =>
  some r4067
def M.i_areRoutes_1 (x4057 : Route) (x4058 : Int) : Option (Bool) :=
  Option.bind (α := Bool) (Option.bind (M.i_isPriority x4057.Priority) fun r4083 =>
  bif !r4083 then some true
  else (Option.bind (M.i_inside x4057.Target 0 (w64 (x4058 - 1))) fun r4088 =>
  some (!r4088))) fun o4080 =>
  some o4080
def M.slices_IndexFunc_159__i_areRoutes_1 (x4046 : List Route) (x4051 : Int) : Option (Int) :=
  Option.bind (whileM (σ := Int) (ρ := (Unit) ⊕ (Int)) (fun s4108 =>
    bif decide (s4108 < (x4046.length : Int)) then (Option.bind (gxIdx x4046 s4108) fun y4120 =>
    Option.bind (M.i_areRoutes_1 y4120 x4051) fun r4121 =>
    bif r4121 then some (.inr (.inr s4108))
    else some (.inl (w64 (s4108 + 1))))
    else some (.inr (.inl ()))) gxFuel 0) fun out4115 => Sum.elim (fun (o4118 : Unit) =>
  some (-1)) (fun r => some r) out4115
def M.slices_ContainsFunc_109__i_areRoutes_1 (x4037 : List Route) (x4042 : Int) : Option (Bool) :=
  Option.bind (M.slices_IndexFunc_159__i_areRoutes_1 x4037 x4042) fun r4130 =>
  some (decide (r4130 ≥ 0))
def M.i_areRoutes (x4009 : List Route) (x4014 : Int) : Option (Bool) :=
  Option.bind (α := Bool) (Option.bind (M.i_inside x4014 1 2) fun r4141 =>
  bif r4141 then (bif (x4009.length : Int) == 8 then (Option.bind (M.slices_ContainsFunc_109__i_areRoutes_1 x4009 x4014) fun r4147 =>
  some (!r4147))
  else some false)
  else some false) fun o4138 =>
  some o4138
def M.i_isMask (x4212 : Int) : Option (Bool) :=
  Option.bind (M.i_inside x4212 0 16) fun r4213 =>
  some r4213
def M.i_isIrq (x4268 : Int) : Option (Bool) :=
  Option.bind (M.i_inside x4268 0 7) fun r4269 =>
  some r4269
def M.i_findSlot_1 (x4310 : Slot) (x4311 : Int) : Option (Bool) :=
  Option.bind (α := Bool) (bif x4310.State != 0 then some (x4310.Irq == x4311)
  else some false) fun o4320 =>
  some o4320
def M.slices_IndexFunc_210__i_findSlot_1 (x4299 : List Slot) (x4304 : Int) : Option (Int) :=
  Option.bind (whileM (σ := Int) (ρ := (Unit) ⊕ (Int)) (fun s4340 =>
    bif decide (s4340 < (x4299.length : Int)) then (Option.bind (gxIdx x4299 s4340) fun y4352 =>
    Option.bind (M.i_findSlot_1 y4352 x4304) fun r4353 =>
    bif r4353 then some (.inr (.inr s4340))
    else some (.inl (w64 (s4340 + 1))))
    else some (.inr (.inl ()))) gxFuel 0) fun out4347 => Sum.elim (fun (o4350 : Unit) =>
  some (-1)) (fun r => some r) out4347
def M.i_findSlot (x4289 : List Slot) (x4294 : Int) : Option (Int) :=
  Option.bind (M.slices_IndexFunc_210__i_findSlot_1 x4289 x4294) fun r4362 =>
  some r4362
def M.i_AreSlots (x4245 : List Slot) : Option (Bool) :=
  bif (x4245.length : Int) != 4 then some false
  else (Option.bind (whileM (σ := Int) (ρ := (Unit) ⊕ (Bool)) (fun s4485 =>
    bif decide (s4485 < (x4245.length : Int)) then (Option.bind (gxIdx x4245 s4485) fun y4497 =>
    bif y4497.State == 0 then (bif !((y4497.State == 0) && ((y4497.Irq == 0) && ((y4497.Priority == 0) && true))) then some (.inr (.inr false))
    else some (.inl (w64 (s4485 + 1))))
    else (Option.bind (α := Bool) (Option.bind (M.i_inside y4497.State 1 3) fun r4538 =>
    bif !r4538 then some true
    else (Option.bind (M.i_isIrq y4497.Irq) fun r4545 =>
    bif !r4545 then some true
    else (Option.bind (M.i_isPriority y4497.Priority) fun r4552 =>
    bif !r4552 then some true
    else (Option.bind (gxSlice x4245 0 s4485) fun ys4559 =>
    Option.bind (M.i_findSlot ys4559 y4497.Irq) fun r4561 =>
    some (decide (r4561 ≥ 0)))))) fun o4535 =>
    bif o4535 then some (.inr (.inr false))
    else some (.inl (w64 (s4485 + 1)))))
    else some (.inr (.inl ()))) gxFuel 0) fun out4492 => Sum.elim (fun (o4495 : Unit) =>
  some true) (fun r => some r) out4492)
def M.i_waiterIndex_1 (x4633 : Waiter) (x4634 : Int) : Option (Bool) :=
  some (x4633.Irq == x4634)
def M.slices_IndexFunc_166__i_waiterIndex_1 (x4622 : List Waiter) (x4627 : Int) : Option (Int) :=
  Option.bind (whileM (σ := Int) (ρ := (Unit) ⊕ (Int)) (fun s4654 =>
    bif decide (s4654 < (x4622.length : Int)) then (Option.bind (gxIdx x4622 s4654) fun y4666 =>
    Option.bind (M.i_waiterIndex_1 y4666 x4627) fun r4667 =>
    bif r4667 then some (.inr (.inr s4654))
    else some (.inl (w64 (s4654 + 1))))
    else some (.inr (.inl ()))) gxFuel 0) fun out4661 => Sum.elim (fun (o4664 : Unit) =>
  some (-1)) (fun r => some r) out4661
def M.i_waiterIndex (x4612 : List Waiter) (x4617 : Int) : Option (Int) :=
  Option.bind (M.slices_IndexFunc_166__i_waiterIndex_1 x4612 x4617) fun r4676 =>
  some r4676
def M.cmp_isNaN_222 (x4703 : Int) : Option (Bool) :=
  some (x4703 != x4703)
def M.cmp_Compare_170 (x4701 : Int) (x4702 : Int) : Option (Int) :=
  Option.bind (M.cmp_isNaN_222 x4701) fun r4704 =>
  Option.bind (M.cmp_isNaN_222 x4702) fun r4708 =>
  bif r4704 then (bif r4708 then some 0
  else some (-1))
  else (bif r4708 then some 1
  else (bif decide (x4701 < x4702) then some (-1)
  else (bif decide (x4701 > x4702) then some 1
  else some 0)))
def M.cmp_Or_169 (x4769 : List Int) : Option (Int) :=
  Option.bind (whileM (σ := Int) (ρ := (Unit) ⊕ (Int)) (fun s4780 =>
    bif decide (s4780 < (x4769.length : Int)) then (Option.bind (gxIdx x4769 s4780) fun y4792 =>
    bif y4792 != 0 then some (.inr (.inr y4792))
    else some (.inl (w64 (s4780 + 1))))
    else some (.inr (.inl ()))) gxFuel 0) fun out4787 => Sum.elim (fun (o4790 : Unit) =>
  some 0) (fun r => some r) out4787
def M.i_compareUrgency (x4689 : Waiter) (x4690 : Waiter) : Option (Int) :=
  Option.bind (M.cmp_Compare_170 x4689.Priority x4690.Priority) fun r4717 =>
  Option.bind (M.cmp_Compare_170 x4689.Irq x4690.Irq) fun r4758 =>
  Option.bind (M.cmp_Or_169 [r4717, r4758]) fun r4798 =>
  some r4798
def M.i_areParts (x4235 : List Slot) (x4240 : List Waiter) : Option (Bool) :=
  Option.bind (M.i_AreSlots x4235) fun r4576 =>
  bif !r4576 then some false
  else (Option.bind (whileM (σ := Int) (ρ := (Unit) ⊕ (Bool)) (fun s4954 =>
    bif decide (s4954 < (x4240.length : Int)) then (Option.bind (gxIdx x4240 s4954) fun y4966 =>
    Option.bind (α := Bool) (Option.bind (M.i_isIrq y4966.Irq) fun r5016 =>
    bif !r5016 then some true
    else (Option.bind (M.i_isPriority y4966.Priority) fun r5023 =>
    bif !r5023 then some true
    else (Option.bind (M.i_findSlot x4235 y4966.Irq) fun r5030 =>
    bif decide (r5030 ≥ 0) then some true
    else (Option.bind (gxSlice x4240 0 s4954) fun ys5037 =>
    Option.bind (M.i_waiterIndex ys5037 y4966.Irq) fun r5039 =>
    bif decide (r5039 ≥ 0) then some true
    else (bif decide (s4954 > 0) then (Option.bind (gxIdx x4240 (w64 (s4954 - 1))) fun y5047 =>
    Option.bind (M.i_compareUrgency y5047 y4966) fun r5048 =>
    some (decide (r5048 ≥ 0)))
    else some false))))) fun o5013 =>
    bif o5013 then some (.inr (.inr false))
    else some (.inl (w64 (s4954 + 1))))
    else some (.inr (.inl ()))) gxFuel 0) fun out4961 => Sum.elim (fun (o4964 : Unit) =>
  some true) (fun r => some r) out4961)
def M.i_waiterOf (x5102 : Slot) : Option (Waiter) :=
  some (⟨x5102.Irq, x5102.Priority⟩ : Waiter)
def M.i_pendingSlot (x5084 : List Slot) (x5089 : Bool) : Option (Int) :=
  Option.bind (whileM (σ := Int × Int) (ρ := Int) (fun s5233 =>
    bif decide (s5233.2 < (x5084.length : Int)) then (Option.bind (gxIdx x5084 s5233.2) fun y5245 =>
    Option.bind (α := Bool) (bif y5245.State == 1 then (bif decide (s5233.1 < 0) then some true
    else (Option.bind (M.i_waiterOf y5245) fun r5280 =>
    Option.bind (gxIdx x5084 s5233.1) fun y5284 =>
    Option.bind (M.i_waiterOf y5284) fun r5285 =>
    Option.bind (M.i_compareUrgency r5280 r5285) fun r5289 =>
    some ((decide (r5289 < 0)) == x5089)))
    else some false) fun o5273 =>
    Option.bind (α := Int) (bif o5273 then some s5233.2
    else some s5233.1) fun o5302 =>
    some (.inl (o5302, w64 (s5233.2 + 1))))
    else some (.inr s5233.1)) gxFuel ((-1), 0)) fun out5240 =>
  some out5240
def M.i_firstEmpty_1 (x5330 : Slot) : Option (Bool) :=
  some (x5330.State == 0)
def M.slices_IndexFunc_210__i_firstEmpty_1 (x5323 : List Slot) : Option (Int) :=
  Option.bind (whileM (σ := Int) (ρ := (Unit) ⊕ (Int)) (fun s5347 =>
    bif decide (s5347 < (x5323.length : Int)) then (Option.bind (gxIdx x5323 s5347) fun y5359 =>
    Option.bind (M.i_firstEmpty_1 y5359) fun r5360 =>
    bif r5360 then some (.inr (.inr s5347))
    else some (.inl (w64 (s5347 + 1))))
    else some (.inr (.inl ()))) gxFuel 0) fun out5354 => Sum.elim (fun (o5357 : Unit) =>
  some (-1)) (fun r => some r) out5354
def M.i_firstEmpty (x5318 : List Slot) : Option (Int) :=
  Option.bind (M.slices_IndexFunc_210__i_firstEmpty_1 x5318) fun r5369 =>
  some r5369
def M.i_isSettled (x5070 : Queue) : Option (Bool) :=
  bif (x5070.Waiting.length : Int) == 0 then some true
  else (Option.bind (M.i_pendingSlot x5070.Slots false) fun r5314 =>
  Option.bind (α := Bool) (Option.bind (M.i_firstEmpty x5070.Slots) fun r5398 =>
  bif decide (r5398 < 0) then (bif decide (r5314 < 0) then some true
  else (Option.bind (gxIdx x5070.Waiting 0) fun y5406 =>
  Option.bind (gxIdx x5070.Slots r5314) fun y5407 =>
  Option.bind (M.i_waiterOf y5407) fun r5408 =>
  Option.bind (M.i_compareUrgency y5406 r5408) fun r5412 =>
  some (decide (r5412 > 0))))
  else some false) fun o5395 =>
  some o5395)
def M.i_IsQueue (x4222 : Queue) : Option (Bool) :=
  Option.bind (α := Bool) (Option.bind (M.i_areParts x4222.Slots x4222.Waiting) fun r5431 =>
  bif r5431 then (Option.bind (M.i_isSettled x4222) fun r5436 =>
  some r5436)
  else some false) fun o5428 =>
  some o5428
def M.i_copyInts (x5465 : List Int) : Option ((List Int)) :=
  Option.bind (gxApp 8 ([] : List Int) x5465) fun ap5482 =>
  some ap5482
def M.slices_Sort_114 (x5504 : List Int) : Option ((List Int)) :=
  bif decide (x5504.length < 4611686018427387904) then some (gxSortI x5504)
  else none
def M.i_isActive (x5543 : Slot) : Option (Bool) :=
  Option.bind (α := Bool) (bif x5543.State == 2 then some true
  else some (x5543.State == 3)) fun o5549 =>
  some o5549
def M.i_activeIrqs (x5518 : List Slot) : Option ((List Int)) :=
  Option.bind (whileM (σ := List Int × Int) (ρ := List Int) (fun s5666 =>
    bif decide (s5666.2 < (x5518.length : Int)) then (Option.bind (gxIdx x5518 s5666.2) fun y5688 =>
    Option.bind (M.i_isActive y5688) fun r5695 =>
    Option.bind (α := List Int) (bif r5695 then (Option.bind (gxApp 8 s5666.1 [y5688.Irq]) fun ap5731 =>
    some ap5731)
    else some s5666.1) fun o5715 =>
    some (.inl (o5715, w64 (s5666.2 + 1))))
    else some (.inr s5666.1)) gxFuel (([] : List Int), 0)) fun out5673 =>
  Option.bind (M.slices_Sort_114 out5673) fun r5747 =>
  some r5747
def M.slices_Equal_115 (x5763 : List Int) (x5768 : List Int) : Option (Bool) :=
  bif (x5763.length : Int) != (x5768.length : Int) then some false
  else (Option.bind (whileM (σ := Int) (ρ := (Unit) ⊕ (Bool)) (fun s5786 =>
    bif decide (s5786 < (x5763.length : Int)) then (Option.bind (gxIdx x5763 s5786) fun y5798 =>
    Option.bind (gxIdx x5768 s5786) fun y5799 =>
    bif y5798 != y5799 then some (.inr (.inr false))
    else some (.inl (w64 (s5786 + 1))))
    else some (.inr (.inl ()))) gxFuel 0) fun out5793 => Sum.elim (fun (o5796 : Unit) =>
  some true) (fun r => some r) out5793)
def M.i_priorityIn (x5814 : List Slot) (x5819 : Int) : Option (Int) :=
  Option.bind (M.i_findSlot x5814 x5819) fun r5820 =>
  Option.bind (gxIdx x5814 r5820) fun y5824 =>
  some y5824.Priority
def M.i_IsInterface (x4195 : Interface) : Option (Bool) :=
  Option.bind (α := Bool) (Option.bind (M.i_isMask x4195.Mask) fun r5451 =>
  bif !r5451 then some true
  else (Option.bind (M.i_IsQueue (⟨x4195.Queue.Slots, x4195.Queue.Waiting⟩ : Queue)) fun r5456 =>
  some (!r5456))) fun o5448 =>
  bif o5448 then some false
  else (Option.bind (M.i_copyInts x4195.Stack) fun r5490 =>
  Option.bind (M.slices_Sort_114 r5490) fun r5511 =>
  Option.bind (M.i_activeIrqs x4195.Queue.Slots) fun r5754 =>
  Option.bind (M.slices_Equal_115 r5511 r5754) fun r5807 =>
  bif !r5807 then some false
  else (Option.bind (whileM (σ := Int) (ρ := (Unit) ⊕ (Bool)) (fun s5851 =>
    bif decide (s5851 < (x4195.Stack.length : Int)) then (Option.bind (gxIdx x4195.Stack s5851) fun y5863 =>
    Option.bind (M.i_priorityIn x4195.Queue.Slots y5863) fun r5864 =>
    Option.bind (gxIdx x4195.Stack (w64 (s5851 - 1))) fun y5868 =>
    Option.bind (M.i_priorityIn x4195.Queue.Slots y5868) fun r5869 =>
    bif decide (r5864 ≥ r5869) then some (.inr (.inr false))
    else some (.inl (w64 (s5851 + 1))))
    else some (.inr (.inl ()))) gxFuel 1) fun out5858 => Sum.elim (fun (o5861 : Unit) =>
  some true) (fun r => some r) out5858))
def M.slices_Clone_118 (x5916 : List Waiter) : Option ((List Waiter)) :=
  Option.bind (gxApp 16 ([] : List Waiter) x5916) fun ap5937 =>
  some ap5937
def M.i_fitsRoutes_1 (x6203 : Waiter) (x6204 : List Route) (x6212 : Int) : Option (Bool) :=
  Option.bind (gxIdx x6204 x6203.Irq) fun y6220 =>
  some (!((y6220.Priority == x6203.Priority) && ((y6220.Target == x6212) && true)))
def M.slices_IndexFunc_166__i_fitsRoutes_1 (x6184 : List Waiter) (x6189 : List Route) (x6197 : Int) : Option (Int) :=
  Option.bind (whileM (σ := Int) (ρ := (Unit) ⊕ (Int)) (fun s6235 =>
    bif decide (s6235 < (x6184.length : Int)) then (Option.bind (gxIdx x6184 s6235) fun y6247 =>
    Option.bind (M.i_fitsRoutes_1 y6247 x6189 x6197) fun r6248 =>
    bif r6248 then some (.inr (.inr s6235))
    else some (.inl (w64 (s6235 + 1))))
    else some (.inr (.inl ()))) gxFuel 0) fun out6242 => Sum.elim (fun (o6245 : Unit) =>
  some (-1)) (fun r => some r) out6242
def M.slices_ContainsFunc_120__i_fitsRoutes_1 (x6167 : List Waiter) (x6172 : List Route) (x6180 : Int) : Option (Bool) :=
  Option.bind (M.slices_IndexFunc_166__i_fitsRoutes_1 x6167 x6172 x6180) fun r6257 =>
  some (decide (r6257 ≥ 0))
def M.i_fitsRoutes (x5885 : List Route) (x5890 : Int) (x5891 : Interface) : Option (Bool) :=
  Option.bind (M.slices_Clone_118 x5891.Queue.Waiting) fun r5945 =>
  Option.bind (whileM (σ := List Waiter × Int) (ρ := (List Waiter) ⊕ (Bool)) (fun s6081 =>
    bif decide (s6081.2 < (x5891.Queue.Slots.length : Int)) then (Option.bind (gxIdx x5891.Queue.Slots s6081.2) fun y6103 =>
    bif y6103.State == 3 then some (.inr (.inr false))
    else (Option.bind (α := List Waiter) (bif y6103.State != 0 then (Option.bind (M.i_waiterOf y6103) fun r6140 =>
    Option.bind (gxApp 16 s6081.1 [r6140]) fun ap6151 =>
    some ap6151)
    else some s6081.1) fun o6131 =>
    some (.inl (o6131, w64 (s6081.2 + 1)))))
    else some (.inr (.inl s6081.1))) gxFuel (r5945, 0)) fun out6088 => Sum.elim (fun (o6096 : List Waiter) =>
  Option.bind (M.slices_ContainsFunc_120__i_fitsRoutes_1 o6096 x5885 x5890) fun r6261 =>
  some (!r6261)) (fun r => some r) out6088
def M.i_IsMachine (x3988 : Machine) : Option (Bool) :=
  Option.bind (α := Bool) (Option.bind (M.i_areRoutes x3988.Routes (x3988.Cpus.length : Int)) fun r4164 =>
  bif !r4164 then some true
  else (bif (x3988.Enabled.length : Int) != 8 then some true
  else some ((x3988.Raised.length : Int) != 8))) fun o4161 =>
  bif o4161 then some false
  else (Option.bind (whileM (σ := Int) (ρ := (Unit) ⊕ (Bool)) (fun s6332 =>
    bif decide (s6332 < (x3988.Cpus.length : Int)) then (Option.bind (gxIdx x3988.Cpus s6332) fun y6344 =>
    Option.bind (α := Bool) (Option.bind (M.i_IsInterface (⟨y6344.Mask, y6344.Stack, (⟨y6344.Queue.Slots, y6344.Queue.Waiting⟩ : Queue)⟩ : Interface)) fun r6375 =>
    bif !r6375 then some true
    else (Option.bind (M.i_fitsRoutes x3988.Routes s6332 (⟨y6344.Mask, y6344.Stack, (⟨y6344.Queue.Slots, y6344.Queue.Waiting⟩ : Queue)⟩ : Interface)) fun r6380 =>
    some (!r6380))) fun o6372 =>
    bif o6372 then some (.inr (.inr false))
    else some (.inl (w64 (s6332 + 1))))
    else some (.inr (.inl ()))) gxFuel 0) fun out6339 => Sum.elim (fun (o6342 : Unit) =>
  some true) (fun r => some r) out6339)
def M.s_l21Cpu (x7068 : Machine) (x7085 : Int) : Option (Bool) :=
  Option.bind (α := Bool) (Option.bind (M.s_l21Good x7068) fun r7102 =>
  bif r7102 then (Option.bind (M.s_l1In x7085 0 (w64 ((x7068.Cpus.length : Int) - 1))) fun r7107 =>
  some r7107)
  else some false) fun o7099 =>
  some o7099
def M.s_l1Own (x7137 : List Int) : Option ((List Int)) :=
  Option.bind (gxApp 8 ([] : List Int) x7137) fun ap7154 =>
  some ap7154
def M.s_RunningOn (x7041 : Machine) (x7058 : Int) : Option ((List Int) × Bool) :=
  Option.bind (M.s_l21Cpu x7041 x7058) fun r7115 =>
  bif !r7115 then some (([] : List Int), false)
  else (Option.bind (gxIdx x7041.Cpus x7058) fun y7127 =>
  Option.bind (M.s_l1Own y7127.Stack) fun r7162 =>
  some (r7162, true))
def M.i_Machine_hasCpu (x7247 : Machine) (x7264 : Int) : Option (Bool) :=
  Option.bind (M.i_inside x7264 0 (w64 ((x7247.Cpus.length : Int) - 1))) fun r7269 =>
  some r7269
def M.i_RunningOn (x7215 : Machine) (x7232 : Int) : Option ((List Int) × Bool) :=
  Option.bind (α := Bool) (Option.bind (M.i_IsMachine x7215) fun r7280 =>
  bif !r7280 then some true
  else (Option.bind (M.i_Machine_hasCpu x7215 x7232) fun r7285 =>
  some (!r7285))) fun o7277 =>
  bif o7277 then some (([] : List Int), false)
  else (Option.bind (gxIdx x7215.Cpus x7232) fun y7295 =>
  Option.bind (M.i_copyInts y7295.Stack) fun r7305 =>
  some (r7305, true))
def M.s_l9Wait (x8704 : List Waiter) (x8709 : Waiter) : Option ((List Waiter)) :=
  Option.bind (whileM (σ := Int) (ρ := Int) (fun s8779 =>
    Option.bind (α := Bool) (bif decide (s8779 < (x8704.length : Int)) then (Option.bind (gxIdx x8704 s8779) fun y8805 =>
    Option.bind (gxIdx x8704 s8779) fun y8806 =>
    Option.bind (M.s_l8Less y8805.Priority y8806.Irq x8709.Priority x8709.Irq) fun r8807 =>
    some r8807)
    else some false) fun o8801 =>
    bif o8801 then some (.inl (w64 (s8779 + 1)))
    else some (.inr s8779)) gxFuel 0) fun out8786 =>
  Option.bind (gxSlice x8704 0 out8786) fun ys8831 =>
  Option.bind (gxApp 16 ([] : List Waiter) ys8831) fun ap8833 =>
  Option.bind (gxApp 16 ap8833 [x8709]) fun ap8844 =>
  Option.bind (gxSlice x8704 out8786 (x8704.length : Int)) fun ys8850 =>
  Option.bind (gxApp 16 ap8844 ys8850) fun ap8899 =>
  some ap8899
def M.s_l9Pending (x8653 : Queue) : Option ((List Int)) :=
  Option.bind (gxApp 16 ([] : List Waiter) x8653.Waiting) fun ap8678 =>
  Option.bind (whileM (σ := List Waiter × Int) (ρ := List Waiter) (fun s8992 =>
    bif decide (s8992.2 < (x8653.Slots.length : Int)) then (Option.bind (gxIdx x8653.Slots s8992.2) fun y9014 =>
    Option.bind (α := Bool) (bif y9014.State == 1 then some true
    else some (y9014.State == 3)) fun o9022 =>
    Option.bind (α := List Waiter) (bif o9022 then (Option.bind (M.s_l9Wait s8992.1 (⟨y9014.Irq, y9014.Priority⟩ : Waiter)) fun r9049 =>
    some r9049)
    else some s8992.1) fun o9040 =>
    some (.inl (o9040, w64 (s8992.2 + 1))))
    else some (.inr s8992.1)) gxFuel (ap8678, 0)) fun out8999 =>
  Option.bind (whileM (σ := List Int × Int) (ρ := List Int) (fun s9112 =>
    bif decide (s9112.2 < (out8999.length : Int)) then (Option.bind (gxIdx out8999 s9112.2) fun y9134 =>
    Option.bind (gxApp 8 s9112.1 [y9134.Irq]) fun ap9142 =>
    some (.inl (ap9142, w64 (s9112.2 + 1))))
    else some (.inr s9112.1)) gxFuel (([] : List Int), 0)) fun out9119 =>
  some out9119
def M.s_l21Idle (x8554 : Machine) : Option (Bool) :=
  Option.bind (whileM (σ := Int) (ρ := (Unit) ⊕ (Bool)) (fun s8605 =>
    bif decide (s8605 < 8) then (Option.bind (α := Bool) (Option.bind (gxIdx x8554.Enabled s8605) fun y8623 =>
    bif y8623 then (Option.bind (gxIdx x8554.Raised s8605) fun y8625 =>
    some y8625)
    else some false) fun o8620 =>
    bif o8620 then some (.inr (.inr false))
    else some (.inl (w64 (s8605 + 1))))
    else some (.inr (.inl ()))) gxFuel 0) fun out8612 => Sum.elim (fun (o8615 : Unit) =>
  Option.bind (whileM (σ := Int) (ρ := (Unit) ⊕ (Bool)) (fun s9258 =>
    bif decide (s9258 < (x8554.Cpus.length : Int)) then (Option.bind (α := Bool) (Option.bind (gxIdx x8554.Cpus s9258) fun y9299 =>
    bif decide ((y9299.Stack.length : Int) > 0) then some true
    else (Option.bind (gxIdx x8554.Cpus s9258) fun y9310 =>
    Option.bind (M.s_l9Pending (⟨y9310.Queue.Slots, y9310.Queue.Waiting⟩ : Queue)) fun r9316 =>
    some (decide ((r9316.length : Int) > 0)))) fun o9296 =>
    bif o9296 then some (.inr (.inr false))
    else some (.inl (w64 (s9258 + 1))))
    else some (.inr (.inl ()))) gxFuel 0) fun out9265 => Sum.elim (fun (o9268 : Unit) =>
  some true) (fun r => some r) out9265) (fun r => some r) out8612
def M.s_IsIdle (x8528 : Machine) : Option (Bool × Bool) :=
  Option.bind (M.s_l21Good x8528) fun r8549 =>
  bif !r8549 then some (false, false)
  else (Option.bind (M.s_l21Idle x8528) fun r9334 =>
  some (r9334, true))
def M.math_bits_Len (x9781 : Int) : Option (Int) :=
  bif decide (0 ≤ x9781) && decide (x9781 ≤ 18446744073709551615) then some ((Lib.bitLen x9781.toNat : Nat) : Int)
  else none
def M.slices_insertionSortCmpFunc_214__i_compareUrgency (x9838 : List Waiter) (x9844 : Int) (x9845 : Int) : Option ((List Waiter)) :=
  Option.bind (whileM (σ := Int × List Waiter) (ρ := List Waiter) (fun s10566 =>
    bif decide (s10566.1 < x9845) then (Option.bind (whileM (σ := Int × List Waiter) (ρ := List Waiter) (fun s10809 =>
      Option.bind (α := Bool) (bif decide (s10809.1 > x9844) then (Option.bind (gxIdx s10809.2 s10809.1) fun y10841 =>
      Option.bind (gxIdx s10809.2 (w64 (s10809.1 - 1))) fun y10842 =>
      Option.bind (M.i_compareUrgency y10841 y10842) fun r10843 =>
      some (decide (r10843 < 0)))
      else some false) fun o10837 =>
      bif o10837 then (Option.bind (gxIdx s10809.2 (w64 (s10809.1 - 1))) fun y10858 =>
      Option.bind (gxIdx s10809.2 s10809.1) fun y10859 =>
      Option.bind (gxIdx s10809.2 s10809.1) fun y10860 =>
      Option.bind (gxIdx (s10809.2.set s10809.1.toNat y10858) (w64 (s10809.1 - 1))) fun y10932 =>
      some (.inl (w64 (s10809.1 - 1), ((s10809.2.set s10809.1.toNat y10858).set (w64 (s10809.1 - 1)).toNat y10859))))
      else some (.inr s10809.2)) gxFuel (s10566.1, s10566.2)) fun out10816 =>
    some (.inl (w64 (s10566.1 + 1), out10816)))
    else some (.inr s10566.2)) gxFuel (w64 (x9844 + 1), x9838)) fun out10573 =>
  some out10573
def M.slices_pdqsortCmpFunc_168__i_compareUrgency (x10946 : List Waiter) (x10952 : Int) (x10953 : Int) (x10954 : Int) : Option ((List Waiter)) :=
  Option.bind (whileM (σ := Unit) (ρ := (List Waiter)) (fun s10972 =>
    bif decide ((w64 (x10953 - x10952)) ≤ 12) then (Option.bind (M.slices_insertionSortCmpFunc_214__i_compareUrgency x10946 x10952 x10953) fun r10983 =>
    some (.inr r10983))
    else (none)) gxFuel ()) fun out10979 => some out10979
def M.slices_SortFunc_128__i_compareUrgency (x10995 : List Waiter) : Option ((List Waiter)) :=
  Option.bind (M.math_bits_Len (IntKind.u64.wrap (x10995.length : Int))) fun r11002 =>
  Option.bind (M.slices_pdqsortCmpFunc_168__i_compareUrgency x10995 0 (x10995.length : Int) r11002) fun r11006 =>
  some r11006
def M.i_pendingIrqs (x9499 : Queue) : Option ((List Int)) :=
  Option.bind (gxApp 16 ([] : List Waiter) x9499.Waiting) fun ap9524 =>
  Option.bind (whileM (σ := List Waiter × Int) (ρ := List Waiter) (fun s9682 =>
    bif decide (s9682.2 < (x9499.Slots.length : Int)) then (Option.bind (gxIdx x9499.Slots s9682.2) fun y9704 =>
    Option.bind (α := Bool) (bif y9704.State == 1 then some true
    else some (y9704.State == 3)) fun o9712 =>
    Option.bind (α := List Waiter) (bif o9712 then (Option.bind (M.i_waiterOf y9704) fun r9749 =>
    Option.bind (gxApp 16 s9682.1 [r9749]) fun ap9760 =>
    some ap9760)
    else some s9682.1) fun o9740 =>
    some (.inl (o9740, w64 (s9682.2 + 1))))
    else some (.inr s9682.1)) gxFuel (ap9524, 0)) fun out9689 =>
  Option.bind (M.slices_SortFunc_128__i_compareUrgency out9689) fun r11013 =>
  Option.bind (whileM (σ := List Int × Int) (ρ := List Int) (fun s11071 =>
    bif decide (s11071.2 < (r11013.length : Int)) then (Option.bind (gxIdx r11013 s11071.2) fun y11093 =>
    Option.bind (gxApp 8 s11071.1 [y11093.Irq]) fun ap11107 =>
    some (.inl (ap11107, w64 (s11071.2 + 1))))
    else some (.inr s11071.1)) gxFuel (([] : List Int), 0)) fun out11078 =>
  some out11078
def M.i_IsIdle_1 (x9481 : Interface) : Option (Bool) :=
  Option.bind (α := Bool) (bif decide ((x9481.Stack.length : Int) > 0) then some true
  else (Option.bind (M.i_pendingIrqs (⟨x9481.Queue.Slots, x9481.Queue.Waiting⟩ : Queue)) fun r11132 =>
  some (decide ((r11132.length : Int) > 0)))) fun o11128 =>
  some o11128
def M.slices_IndexFunc_127__i_IsIdle_1 (x9465 : List Interface) : Option (Int) :=
  Option.bind (whileM (σ := Int) (ρ := (Unit) ⊕ (Int)) (fun s11166 =>
    bif decide (s11166 < (x9465.length : Int)) then (Option.bind (gxIdx x9465 s11166) fun y11178 =>
    Option.bind (M.i_IsIdle_1 (⟨y11178.Mask, y11178.Stack, (⟨y11178.Queue.Slots, y11178.Queue.Waiting⟩ : Queue)⟩ : Interface)) fun r11188 =>
    bif r11188 then some (.inr (.inr s11166))
    else some (.inl (w64 (s11166 + 1))))
    else some (.inr (.inl ()))) gxFuel 0) fun out11173 => Sum.elim (fun (o11176 : Unit) =>
  some (-1)) (fun r => some r) out11173
def M.slices_ContainsFunc_72__i_IsIdle_1 (x9460 : List Interface) : Option (Bool) :=
  Option.bind (M.slices_IndexFunc_127__i_IsIdle_1 x9460) fun r11197 =>
  some (decide (r11197 ≥ 0))
def M.i_IsIdle (x9377 : Machine) : Option (Bool × Bool) :=
  Option.bind (M.i_IsMachine x9377) fun r9398 =>
  bif !r9398 then some (false, false)
  else (Option.bind (whileM (σ := Int) (ρ := (Unit) ⊕ (Bool × Bool)) (fun s9431 =>
    bif decide (s9431 < (x9377.Raised.length : Int)) then (Option.bind (gxIdx x9377.Raised s9431) fun y9443 =>
    Option.bind (α := Bool) (bif y9443 then (Option.bind (gxIdx x9377.Enabled s9431) fun y9450 =>
    some y9450)
    else some false) fun o9446 =>
    bif o9446 then some (.inr (.inr (false, true)))
    else some (.inl (w64 (s9431 + 1))))
    else some (.inr (.inl ()))) gxFuel 0) fun out9438 => Sum.elim (fun (o9441 : Unit) =>
  Option.bind (M.slices_ContainsFunc_72__i_IsIdle_1 x9377.Cpus) fun r11201 =>
  some (!r11201, true)) (fun r => some r) out9438)
def M.s_PendingOn (x11316 : Machine) (x11333 : Int) : Option ((List Int) × Bool) :=
  Option.bind (M.s_l21Cpu x11316 x11333) fun r11343 =>
  bif !r11343 then some (([] : List Int), false)
  else (Option.bind (gxIdx x11316.Cpus x11333) fun y11355 =>
  Option.bind (M.s_l9Pending (⟨y11355.Queue.Slots, y11355.Queue.Waiting⟩ : Queue)) fun r11365 =>
  some (r11365, true))
def M.i_PendingOn (x11418 : Machine) (x11435 : Int) : Option ((List Int) × Bool) :=
  Option.bind (α := Bool) (Option.bind (M.i_IsMachine x11418) fun r11457 =>
  bif !r11457 then some true
  else (Option.bind (M.i_Machine_hasCpu x11418 x11435) fun r11462 =>
  some (!r11462))) fun o11454 =>
  bif o11454 then some (([] : List Int), false)
  else (Option.bind (gxIdx x11418.Cpus x11435) fun y11472 =>
  Option.bind (M.i_pendingIrqs (⟨y11472.Queue.Slots, y11472.Queue.Waiting⟩ : Queue)) fun r11482 =>
  some (r11482, true))
def M.s_l9Own (x12059 : Queue) : Option (Queue) :=
  Option.bind (gxApp 24 ([] : List Slot) x12059.Slots) fun ap12093 =>
  Option.bind (gxApp 16 ([] : List Waiter) x12059.Waiting) fun ap12135 =>
  some (⟨ap12093, ap12135⟩ : Queue)
def M.s_l10Own (x12015 : Interface) : Option (Interface) :=
  Option.bind (M.s_l1Own x12015.Stack) fun r12053 =>
  Option.bind (M.s_l9Own (⟨x12015.Queue.Slots, x12015.Queue.Waiting⟩ : Queue)) fun r12147 =>
  some (⟨x12015.Mask, r12053, r12147⟩ : Interface)
def M.s_l21Own (x11840 : Machine) : Option (Machine) :=
  Option.bind (gxApp 16 ([] : List Route) x11840.Routes) fun ap11893 =>
  Option.bind (gxApp 1 ([] : List Bool) x11840.Enabled) fun ap11904 =>
  Option.bind (gxApp 1 ([] : List Bool) x11840.Raised) fun ap11915 =>
  Option.bind (whileM (σ := Int × List Interface) (ρ := List Interface) (fun s12389 =>
    bif decide (s12389.1 < (x11840.Cpus.length : Int)) then (Option.bind (gxIdx x11840.Cpus s12389.1) fun y12415 =>
    Option.bind (M.s_l10Own (⟨y12415.Mask, y12415.Stack, (⟨y12415.Queue.Slots, y12415.Queue.Waiting⟩ : Queue)⟩ : Interface)) fun r12425 =>
    Option.bind (gxApp 80 s12389.2 [(⟨r12425.Mask, r12425.Stack, (⟨r12425.Queue.Slots, r12425.Queue.Waiting⟩ : Queue)⟩ : Interface)]) fun ap12491 =>
    some (.inl (w64 (s12389.1 + 1), ap12491)))
    else some (.inr s12389.2)) gxFuel (0, ([] : List Interface))) fun out12396 =>
  some (⟨ap11893, ap11904, ap11915, out12396⟩ : Machine)
def M.s_l8With (x12733 : List Slot) (x12738 : Int) (x12739 : Slot) : Option ((List Slot)) :=
  Option.bind (gxApp 24 ([] : List Slot) x12733) fun ap12756 =>
  Option.bind (gxIdx ap12756 x12738) fun y12764 =>
  some (ap12756.set x12738.toNat x12739)
def M.s_l8Put (x12696 : List Slot) (x12701 : Int) (x12702 : Int) : Option ((List Slot) × Bool) :=
  Option.bind (M.s_l8Find x12696 x12701) fun r12708 =>
  bif decide (r12708 ≥ 0) then (Option.bind (gxIdx x12696 r12708) fun y12713 =>
  Option.bind (α := Int) (bif y12713.State == 2 then some 3
  else some y12713.State) fun o12723 =>
  Option.bind (M.s_l8With x12696 r12708 (⟨o12723, y12713.Irq, y12713.Priority⟩ : Slot)) fun r12769 =>
  some (r12769, true))
  else (Option.bind (M.s_l8Free x12696) fun r12778 =>
  bif decide (r12778 < 0) then some (([] : List Slot), false)
  else (Option.bind (M.s_l8With x12696 r12778 (⟨1, x12701, x12702⟩ : Slot)) fun r12790 =>
  some (r12790, true)))
def M.s_l9Settle (x12810 : Queue) : Option (Queue) :=
  Option.bind (M.s_l9Own x12810) fun r12837 =>
  Option.bind (whileM (σ := List Slot × List Waiter) (ρ := List Slot × List Waiter) (fun s13293 =>
    Option.bind (M.s_l9Settled (⟨s13293.1, s13293.2⟩ : Queue)) fun r13324 =>
    bif !r13324 then (Option.bind (gxIdx s13293.2 0) fun y13329 =>
    Option.bind (gxSlice s13293.2 1 (s13293.2.length : Int)) fun ys13343 =>
    Option.bind (gxApp 16 ([] : List Waiter) ys13343) fun ap13345 =>
    Option.bind (M.s_l8Free s13293.1) fun r13353 =>
    Option.bind (α := List Waiter × Int) (bif decide (r13353 < 0) then (Option.bind (M.s_l8Best s13293.1 false) fun r13443 =>
    Option.bind (gxIdx s13293.1 r13443) fun y13449 =>
    Option.bind (gxIdx s13293.1 r13443) fun y13450 =>
    Option.bind (M.s_l9Wait ap13345 (⟨y13449.Irq, y13450.Priority⟩ : Waiter)) fun r13510 =>
    some (r13510, r13443))
    else some (ap13345, r13353)) fun o13434 =>
    Option.bind (M.s_l8With s13293.1 o13434.2 (⟨1, y13329.Irq, y13329.Priority⟩ : Slot)) fun r13523 =>
    some (.inl (r13523, o13434.1)))
    else some (.inr (s13293.1, s13293.2))) gxFuel (r12837.Slots, r12837.Waiting)) fun out13300 =>
  some (⟨out13300.1, out13300.2⟩ : Queue)
def M.s_l9Has (x13558 : List Waiter) (x13563 : Int) : Option (Int) :=
  Option.bind (whileM (σ := Int) (ρ := (Unit) ⊕ (Int)) (fun s13570 =>
    bif decide (s13570 < (x13558.length : Int)) then (Option.bind (gxIdx x13558 s13570) fun y13582 =>
    bif y13582.Irq == x13563 then some (.inr (.inr s13570))
    else some (.inl (w64 (s13570 + 1))))
    else some (.inr (.inl ()))) gxFuel 0) fun out13577 => Sum.elim (fun (o13580 : Unit) =>
  some (-1)) (fun r => some r) out13577
def M.s_l9Offer (x12662 : Queue) (x12671 : Int) (x12672 : Int) : Option (Queue) :=
  Option.bind (M.s_l8Find x12662.Slots x12671) fun r12691 =>
  bif decide (r12691 ≥ 0) then (Option.bind (M.s_l8Put x12662.Slots x12671 x12672) fun r12799 =>
  Option.bind (M.s_l9Settle (⟨r12799.1, x12662.Waiting⟩ : Queue)) fun r13542 =>
  some r13542)
  else (Option.bind (M.s_l9Has x12662.Waiting x12671) fun r13588 =>
  bif decide (r13588 ≥ 0) then (Option.bind (M.s_l9Settle x12662) fun r13593 =>
  some r13593)
  else (Option.bind (M.s_l9Wait x12662.Waiting (⟨x12671, x12672⟩ : Waiter)) fun r13611 =>
  Option.bind (M.s_l9Settle (⟨x12662.Slots, r13611⟩ : Queue)) fun r13655 =>
  some r13655))
def M.s_l10Raise (x12616 : Interface) (x12629 : Int) (x12630 : Int) : Option (Interface) :=
  Option.bind (M.s_l1Own x12616.Stack) fun r12656 =>
  Option.bind (M.s_l9Offer (⟨x12616.Queue.Slots, x12616.Queue.Waiting⟩ : Queue) x12629 x12630) fun r13671 =>
  some (⟨x12616.Mask, r12656, r13671⟩ : Interface)
def M.s_l21Sync (x11794 : Machine) : Option (Machine) :=
  Option.bind (M.s_l21Own x11794) fun r12516 =>
  Option.bind (whileM (σ := Int × List Bool × List Interface) (ρ := List Bool × List Interface) (fun s14290 =>
    bif decide (s14290.1 < 8) then (Option.bind (gxIdx x11794.Routes s14290.1) fun y14312 =>
    Option.bind (α := Bool) (Option.bind (gxIdx x11794.Enabled s14290.1) fun y14334 =>
    bif y14334 then (Option.bind (gxIdx x11794.Raised s14290.1) fun y14336 =>
    bif y14336 then (Option.bind (gxIdx x11794.Cpus y14312.Target) fun y14338 =>
    Option.bind (M.s_l1Has y14338.Stack s14290.1) fun r14348 =>
    some (!r14348))
    else some false)
    else some false) fun o14331 =>
    Option.bind (α := List Bool × List Interface) (bif o14331 then (Option.bind (gxIdx s14290.2.1 s14290.1) fun y14491 =>
    Option.bind (gxIdx s14290.2.2 y14312.Target) fun y14499 =>
    Option.bind (gxIdx x11794.Routes s14290.1) fun y14509 =>
    Option.bind (M.s_l10Raise (⟨y14499.Mask, y14499.Stack, (⟨y14499.Queue.Slots, y14499.Queue.Waiting⟩ : Queue)⟩ : Interface) s14290.1 y14509.Priority) fun r14510 =>
    Option.bind (gxIdx s14290.2.2 y14312.Target) fun y14594 =>
    some ((s14290.2.1.set s14290.1.toNat false), (s14290.2.2.set y14312.Target.toNat (⟨r14510.Mask, r14510.Stack, (⟨r14510.Queue.Slots, r14510.Queue.Waiting⟩ : Queue)⟩ : Interface))))
    else some (s14290.2.1, s14290.2.2)) fun o14482 =>
    some (.inl (w64 (s14290.1 + 1), o14482.1, o14482.2)))
    else some (.inr (s14290.2.1, s14290.2.2))) gxFuel (0, r12516.Raised, r12516.Cpus)) fun out14297 =>
  some (⟨r12516.Routes, r12516.Enabled, out14297.1, out14297.2⟩ : Machine)
def M.s_l10Running (x14878 : Interface) : Option (Int) :=
  bif decide ((x14878.Stack.length : Int) > 0) then (Option.bind (gxIdx x14878.Stack (w64 ((x14878.Stack.length : Int) - 1))) fun y14896 =>
  Option.bind (M.s_l10Level (⟨x14878.Queue.Slots, x14878.Queue.Waiting⟩ : Queue) y14896) fun r14897 =>
  some r14897)
  else some 16
def M.s_l1Least (x14904 : Int) (x14905 : Int) : Option (Int) :=
  bif decide (x14904 < x14905) then some x14904
  else some x14905
def M.s_l8Take (x14963 : List Slot) (x14968 : Int) : Option ((List Slot) × Int) :=
  Option.bind (M.s_l8Best x14963 true) fun r14974 =>
  Option.bind (α := Bool) (bif decide (r14974 < 0) then some true
  else (Option.bind (gxIdx x14963 r14974) fun y14984 =>
  some (decide (y14984.Priority ≥ x14968)))) fun o14980 =>
  bif o14980 then (none)
  else (Option.bind (gxIdx x14963 r14974) fun y14990 =>
  Option.bind (M.s_l8With x14963 r14974 (⟨2, y14990.Irq, y14990.Priority⟩ : Slot)) fun r15001 =>
  some (r15001, y14990.Irq))
def M.s_l8Take__k (x15039 : List Slot) (x15044 : Int) : Option ((List Slot) × Int) :=
  Option.bind (M.s_l8Best x15039 true) fun r15046 =>
  Option.bind (α := Bool) (bif decide (r15046 < 0) then some true
  else (Option.bind (gxIdx x15039 r15046) fun y15056 =>
  some (decide (y15056.Priority ≥ x15044)))) fun o15052 =>
  bif o15052 then some (x15039, (-1))
  else (Option.bind (gxIdx x15039 r15046) fun y15062 =>
  Option.bind (M.s_l8With x15039 r15046 (⟨2, y15062.Irq, y15062.Priority⟩ : Slot)) fun r15073 =>
  none)
def M.s_l9Take (x14908 : Queue) (x14917 : Int) : Option (Queue × Int) :=
  gxAlt (M.s_l8Take__k x14908.Slots x14917) (fun r15111 =>
    Option.bind (gxApp 24 ([] : List Slot) x14908.Slots) fun ap15122 =>
    Option.bind (gxApp 16 ([] : List Waiter) x14908.Waiting) fun ap15133 =>
    some ((⟨ap15122, ap15133⟩ : Queue), r15111.2))
  (Option.bind (M.s_l8Take x14908.Slots x14917) fun r15185 =>
  Option.bind (gxApp 24 ([] : List Slot) r15185.1) fun ap15201 =>
  Option.bind (gxApp 16 ([] : List Waiter) x14908.Waiting) fun ap15212 =>
  some ((⟨ap15201, ap15212⟩ : Queue), r15185.2))
def M.s_l10Take (x14840 : Interface) : Option (Interface × Int) :=
  Option.bind (M.s_l10Running (⟨x14840.Mask, x14840.Stack, (⟨x14840.Queue.Slots, x14840.Queue.Waiting⟩ : Queue)⟩ : Interface)) fun r14903 =>
  Option.bind (M.s_l1Least x14840.Mask r14903) fun r14907 =>
  Option.bind (M.s_l9Take (⟨x14840.Queue.Slots, x14840.Queue.Waiting⟩ : Queue) r14907) fun r15264 =>
  Option.bind (M.s_l1Own x14840.Stack) fun r15340 =>
  Option.bind (α := List Int) (bif decide (r15264.2 ≥ 0) then (Option.bind (gxApp 8 r15340 [r15264.2]) fun ap15426 =>
  some ap15426)
  else some r15340) fun o15410 =>
  some ((⟨x14840.Mask, o15410, r15264.1⟩ : Interface), r15264.2)
def M.s_l8End (x15618 : List Slot) (x15623 : Int) : Option ((List Slot) × Bool) :=
  Option.bind (M.s_l8Find x15618 x15623) fun r15629 =>
  Option.bind (α := Bool) (bif decide (r15629 < 0) then some true
  else (Option.bind (gxIdx x15618 r15629) fun y15639 =>
  some (y15639.State == 1))) fun o15635 =>
  bif o15635 then some (([] : List Slot), false)
  else (Option.bind (gxIdx x15618 r15629) fun y15652 =>
  bif y15652.State == 2 then (Option.bind (M.s_l8With x15618 r15629 (⟨0, 0, 0⟩ : Slot)) fun r15654 =>
  some (r15654, true))
  else (Option.bind (gxIdx x15618 r15629) fun y15663 =>
  Option.bind (M.s_l8With x15618 r15629 (⟨1, y15663.Irq, y15663.Priority⟩ : Slot)) fun r15672 =>
  some (r15672, true)))
def M.s_l9End (x15590 : Queue) (x15599 : Int) : Option (Queue × Bool) :=
  Option.bind (M.s_l8End x15590.Slots x15599) fun r15681 =>
  bif !r15681.2 then some ((⟨([] : List Slot), ([] : List Waiter)⟩ : Queue), false)
  else (Option.bind (M.s_l9Settle (⟨r15681.1, x15590.Waiting⟩ : Queue)) fun r15697 =>
  some (r15697, true))
def M.s_l10Leave (x15548 : Interface) : Option (Interface × Int) :=
  bif (x15548.Stack.length : Int) == 0 then (none)
  else (Option.bind (gxIdx x15548.Stack (w64 ((x15548.Stack.length : Int) - 1))) fun y15589 =>
  Option.bind (M.s_l9End (⟨x15548.Queue.Slots, x15548.Queue.Waiting⟩ : Queue) y15589) fun r15713 =>
  Option.bind (gxSlice x15548.Stack 0 (w64 ((x15548.Stack.length : Int) - 1))) fun ys15791 =>
  Option.bind (M.s_l1Own ys15791) fun r15793 =>
  Option.bind (gxIdx x15548.Stack (w64 ((x15548.Stack.length : Int) - 1))) fun y15802 =>
  some ((⟨x15548.Mask, r15793, r15713.1⟩ : Interface), y15802))
def M.s_l10Leave__k (x15876 : Interface) : Option (Interface × Int) :=
  bif (x15876.Stack.length : Int) == 0 then some ((⟨x15876.Mask, x15876.Stack, (⟨x15876.Queue.Slots, x15876.Queue.Waiting⟩ : Queue)⟩ : Interface), (-1))
  else (Option.bind (gxIdx x15876.Stack (w64 ((x15876.Stack.length : Int) - 1))) fun y15905 =>
  Option.bind (M.s_l9End (⟨x15876.Queue.Slots, x15876.Queue.Waiting⟩ : Queue) y15905) fun r15906 =>
  Option.bind (gxSlice x15876.Stack 0 (w64 ((x15876.Stack.length : Int) - 1))) fun ys15984 =>
  Option.bind (M.s_l1Own ys15984) fun r15986 =>
  Option.bind (gxIdx x15876.Stack (w64 ((x15876.Stack.length : Int) - 1))) fun y15995 =>
  none)
def M.s_l21Make (x16099 : Machine) (x16116 : MachStep) : Option (Machine × Int × Bool) :=
  Option.bind (M.s_l21Own x16099) fun r16150 =>
  bif x16116.Kind == 1 then (Option.bind (gxIdx r16150.Raised x16116.Irq) fun y16186 =>
  Option.bind (gxIdx x16099.Raised x16116.Irq) fun y16194 =>
  some ((⟨r16150.Routes, r16150.Enabled, (r16150.Raised.set x16116.Irq.toNat true), r16150.Cpus⟩ : Machine), (-1), !y16194))
  else (bif x16116.Kind == 2 then (Option.bind (M.s_l21Sync x16099) fun r16240 =>
  some (r16240, (-1), true))
  else (bif x16116.Kind == 3 then (Option.bind (gxIdx x16099.Cpus x16116.Cpu) fun y16268 =>
  Option.bind (M.s_l10Take (⟨y16268.Mask, y16268.Stack, (⟨y16268.Queue.Slots, y16268.Queue.Waiting⟩ : Queue)⟩ : Interface)) fun r16278 =>
  Option.bind (gxIdx r16150.Cpus x16116.Cpu) fun y16306 =>
  some ((⟨r16150.Routes, r16150.Enabled, r16150.Raised, (r16150.Cpus.set x16116.Cpu.toNat (⟨r16278.1.Mask, r16278.1.Stack, (⟨r16278.1.Queue.Slots, r16278.1.Queue.Waiting⟩ : Queue)⟩ : Interface))⟩ : Machine), r16278.2, decide (r16278.2 ≥ 0)))
  else (bif x16116.Kind == 4 then (Option.bind (gxIdx x16099.Cpus x16116.Cpu) fun y16335 =>
  gxAlt (M.s_l10Leave__k (⟨y16335.Mask, y16335.Stack, (⟨y16335.Queue.Slots, y16335.Queue.Waiting⟩ : Queue)⟩ : Interface)) (fun r16345 =>
    Option.bind (gxIdx r16150.Cpus x16116.Cpu) fun y16358 =>
    bif decide (r16345.2 ≥ 0) then none
    else some ((⟨r16150.Routes, r16150.Enabled, r16150.Raised, (r16150.Cpus.set x16116.Cpu.toNat (⟨r16345.1.Mask, y16335.Stack, (⟨y16335.Queue.Slots, y16335.Queue.Waiting⟩ : Queue)⟩ : Interface))⟩ : Machine), r16345.2, decide (r16345.2 ≥ 0)))
  (Option.bind (M.s_l10Leave (⟨y16335.Mask, y16335.Stack, (⟨y16335.Queue.Slots, y16335.Queue.Waiting⟩ : Queue)⟩ : Interface)) fun r16376 =>
  Option.bind (gxIdx r16150.Cpus x16116.Cpu) fun y16404 =>
  some ((⟨r16150.Routes, r16150.Enabled, r16150.Raised, (r16150.Cpus.set x16116.Cpu.toNat (⟨r16376.1.Mask, r16376.1.Stack, (⟨r16376.1.Queue.Slots, r16376.1.Queue.Waiting⟩ : Queue)⟩ : Interface))⟩ : Machine), r16376.2, decide (r16376.2 ≥ 0))))
  else (bif x16116.Kind == 5 then (Option.bind (gxIdx r16150.Cpus x16116.Cpu) fun y16433 =>
  Option.bind (gxIdx r16150.Cpus x16116.Cpu) fun y16454 =>
  some ((⟨r16150.Routes, r16150.Enabled, r16150.Raised, (r16150.Cpus.set x16116.Cpu.toNat (⟨x16116.Value, y16433.Stack, (⟨y16433.Queue.Slots, y16433.Queue.Waiting⟩ : Queue)⟩ : Interface))⟩ : Machine), (-1), true))
  else (Option.bind (gxIdx r16150.Enabled x16116.Irq) fun y16469 =>
  some ((⟨r16150.Routes, (r16150.Enabled.set x16116.Irq.toNat (x16116.Value == 1)), r16150.Raised, r16150.Cpus⟩ : Machine), (-1), true))))))
def M.s_DrainCpu (x11724 : Machine) (x11741 : Int) : Option (Machine × (List Int) × Bool) :=
  Option.bind (M.s_l21Cpu x11724 x11741) fun r11783 =>
  bif !r11783 then some ((⟨([] : List Route), ([] : List Bool), ([] : List Bool), ([] : List Interface)⟩ : Machine), ([] : List Int), false)
  else (Option.bind (M.s_l21Sync x11724) fun r14626 =>
  Option.bind (whileM (σ := List Int × List Route × List Bool × List Bool × List Interface) (ρ := Machine × (List Int) × Bool) (fun s16665 =>
    Option.bind (M.s_l21Make (⟨s16665.2.1, s16665.2.2.1, s16665.2.2.2.1, s16665.2.2.2.2⟩ : Machine) (⟨3, 0, x11741, 0⟩ : MachStep)) fun r16701 =>
    bif !r16701.2.2 then some (.inr ((⟨s16665.2.1, s16665.2.2.1, s16665.2.2.2.1, s16665.2.2.2.2⟩ : Machine), s16665.1, true))
    else (Option.bind (gxApp 8 s16665.1 [r16701.2.1]) fun ap16746 =>
    Option.bind (M.s_l21Make r16701.1 (⟨4, 0, x11741, 0⟩ : MachStep)) fun r16754 =>
    Option.bind (gxAssert r16754.2.2) fun as16779 =>
    some (.inl (ap16746, r16754.1.Routes, r16754.1.Enabled, r16754.1.Raised, r16754.1.Cpus)))) gxFuel (([] : List Int), r14626.Routes, r14626.Enabled, r14626.Raised, r14626.Cpus)) fun out16672 => some out16672)
def M.i_newQueue (x17174 : Queue) : Option (Queue) :=
  Option.bind (gxApp 24 ([] : List Slot) x17174.Slots) fun ap17208 =>
  Option.bind (gxApp 16 ([] : List Waiter) x17174.Waiting) fun ap17250 =>
  some (⟨ap17208, ap17250⟩ : Queue)
def M.i_newInterface (x17130 : Interface) : Option (Interface) :=
  Option.bind (M.i_copyInts x17130.Stack) fun r17168 =>
  Option.bind (M.i_newQueue (⟨x17130.Queue.Slots, x17130.Queue.Waiting⟩ : Queue)) fun r17262 =>
  some (⟨x17130.Mask, r17168, r17262⟩ : Interface)
def M.i_newMachine (x16946 : Machine) : Option (Machine) :=
  Option.bind (gxApp 16 ([] : List Route) x16946.Routes) fun ap16999 =>
  Option.bind (gxApp 1 ([] : List Bool) x16946.Enabled) fun ap17010 =>
  Option.bind (gxApp 1 ([] : List Bool) x16946.Raised) fun ap17021 =>
  Option.bind (whileM (σ := Int × List Interface) (ρ := List Interface) (fun s17481 =>
    bif decide (s17481.1 < (x16946.Cpus.length : Int)) then (Option.bind (gxIdx x16946.Cpus s17481.1) fun y17505 =>
    Option.bind (M.i_newInterface (⟨y17505.Mask, y17505.Stack, (⟨y17505.Queue.Slots, y17505.Queue.Waiting⟩ : Queue)⟩ : Interface)) fun r17526 =>
    Option.bind (gxApp 80 s17481.2 [(⟨r17526.Mask, r17526.Stack, (⟨r17526.Queue.Slots, r17526.Queue.Waiting⟩ : Queue)⟩ : Interface)]) fun ap17576 =>
    some (.inl (w64 (s17481.1 + 1), ap17576)))
    else some (.inr s17481.2)) gxFuel (0, ([] : List Interface))) fun out17488 =>
  some (⟨ap16999, ap17010, ap17021, out17488⟩ : Machine)
def M.slices_Index_178 (x17710 : List Int) (x17715 : Int) : Option (Int) :=
  Option.bind (whileM (σ := Int) (ρ := (Unit) ⊕ (Int)) (fun s17722 =>
    bif decide (s17722 < (x17710.length : Int)) then (Option.bind (gxIdx x17710 s17722) fun y17734 =>
    bif x17715 == y17734 then some (.inr (.inr s17722))
    else some (.inl (w64 (s17722 + 1))))
    else some (.inr (.inl ()))) gxFuel 0) fun out17729 => Sum.elim (fun (o17732 : Unit) =>
  some (-1)) (fun r => some r) out17729
def M.slices_Contains_136 (x17704 : List Int) (x17709 : Int) : Option (Bool) :=
  Option.bind (M.slices_Index_178 x17704 x17709) fun r17740 =>
  some (decide (r17740 ≥ 0))
def M.i_withSlot (x17937 : List Slot) (x17942 : Int) (x17943 : Slot) : Option ((List Slot)) :=
  Option.bind (gxApp 24 ([] : List Slot) x17937) fun ap17960 =>
  Option.bind (gxIdx ap17960 x17942) fun y17968 =>
  some (ap17960.set x17942.toNat x17943)
def M.i_putIrq (x17900 : List Slot) (x17905 : Int) (x17906 : Int) : Option ((List Slot) × Bool) :=
  Option.bind (M.i_findSlot x17900 x17905) fun r17912 =>
  bif decide (r17912 ≥ 0) then (Option.bind (gxIdx x17900 r17912) fun y17917 =>
  Option.bind (α := Int) (bif y17917.State == 2 then some 3
  else some y17917.State) fun o17927 =>
  Option.bind (M.i_withSlot x17900 r17912 (⟨o17927, y17917.Irq, y17917.Priority⟩ : Slot)) fun r17973 =>
  some (r17973, true))
  else (Option.bind (M.i_firstEmpty x17900) fun r17982 =>
  bif decide (r17982 < 0) then some (([] : List Slot), false)
  else (Option.bind (M.i_withSlot x17900 r17982 (⟨1, x17905, x17906⟩ : Slot)) fun r17988 =>
  some (r17988, true)))
def M.slices_Insert_252 (x18172 : List Waiter) (x18178 : Int) (x18179 : List Waiter) : Option ((List Waiter)) :=
  bif (decide (0 ≤ x18178) && decide (x18178 ≤ (x18172.length : Int))) && (decide (x18179.length = 1) && decide ((x18172.length + 1) * 16 ≤ 140737488355328)) then some (x18172.take x18178.toNat ++ x18179 ++ x18172.drop x18178.toNat)
  else none
def M.i_withWaiter (x18013 : List Waiter) (x18018 : Waiter) : Option ((List Waiter)) :=
  Option.bind (whileM (σ := Int) (ρ := Int) (fun s18084 =>
    Option.bind (α := Bool) (bif decide (s18084 < (x18013.length : Int)) then (Option.bind (gxIdx x18013 s18084) fun y18109 =>
    Option.bind (M.i_compareUrgency y18109 x18018) fun r18110 =>
    some (decide (r18110 < 0)))
    else some false) fun o18105 =>
    bif o18105 then some (.inl (w64 (s18084 + 1)))
    else some (.inr s18084)) gxFuel 0) fun out18091 =>
  Option.bind (gxApp 16 ([] : List Waiter) x18013) fun ap18134 =>
  Option.bind (M.slices_Insert_252 ap18134 out18091 [x18018]) fun r18189 =>
  some r18189
def M.i_settled (x18302 : Queue) : Option (Queue) :=
  Option.bind (M.i_newQueue x18302) fun r18329 =>
  Option.bind (whileM (σ := List Waiter × List Slot) (ρ := List Waiter × List Slot) (fun s18724 =>
    Option.bind (M.i_isSettled (⟨s18724.2, s18724.1⟩ : Queue)) fun r18749 =>
    bif !r18749 then (Option.bind (gxIdx s18724.1 0) fun y18756 =>
    Option.bind (M.i_firstEmpty s18724.2) fun r18757 =>
    Option.bind (gxSlice s18724.1 1 (s18724.1.length : Int)) fun ys18798 =>
    Option.bind (α := Int × List Waiter) (bif decide (r18757 < 0) then (Option.bind (M.i_pendingSlot s18724.2 false) fun r18867 =>
    Option.bind (gxIdx s18724.2 r18867) fun y18873 =>
    Option.bind (M.i_waiterOf y18873) fun r18874 =>
    Option.bind (M.i_withWaiter ys18798 r18874) fun r18911 =>
    some (r18867, r18911))
    else some (r18757, ys18798)) fun o18858 =>
    Option.bind (gxIdx s18724.2 o18858.1) fun y18926 =>
    some (.inl (o18858.2, (s18724.2.set o18858.1.toNat (⟨1, y18756.Irq, y18756.Priority⟩ : Slot)))))
    else some (.inr (s18724.1, s18724.2))) gxFuel (r18329.Waiting, r18329.Slots)) fun out18731 =>
  some (⟨out18731.2, out18731.1⟩ : Queue)
def M.i_offerIrq (x17844 : Queue) (x17853 : Int) (x17854 : Int) : Option (Queue) :=
  Option.bind (M.i_newQueue x17844) fun r17873 =>
  Option.bind (M.i_findSlot x17844.Slots x17853) fun r17895 =>
  Option.bind (α := List Slot × List Waiter) (bif decide (r17895 ≥ 0) then (Option.bind (M.i_putIrq x17844.Slots x17853 x17854) fun r18247 =>
  some (r18247.1, r17873.Waiting))
  else (Option.bind (M.i_waiterIndex x17844.Waiting x17853) fun r18258 =>
  Option.bind (α := List Waiter) (bif decide (r18258 < 0) then (Option.bind (M.i_withWaiter x17844.Waiting (⟨x17853, x17854⟩ : Waiter)) fun r18283 =>
  some r18283)
  else some r17873.Waiting) fun o18274 =>
  some (r17873.Slots, o18274))) fun o18233 =>
  Option.bind (M.i_settled (⟨o18233.1, o18233.2⟩ : Queue)) fun r18938 =>
  some r18938
def M.i_raiseIrq (x17778 : Interface) (x17791 : Int) (x17792 : Int) : Option (Interface) :=
  Option.bind (M.i_newInterface (⟨x17778.Mask, x17778.Stack, (⟨x17778.Queue.Slots, x17778.Queue.Waiting⟩ : Queue)⟩ : Interface)) fun r17816 =>
  Option.bind (M.i_offerIrq (⟨x17778.Queue.Slots, x17778.Queue.Waiting⟩ : Queue) x17791 x17792) fun r18954 =>
  some (⟨r17816.Mask, r17816.Stack, r18954⟩ : Interface)
def M.i_Machine_sync (x17643 : Machine) : Option ((List Route) × (List Bool) × (List Bool) × (List Interface)) :=
  Option.bind (whileM (σ := Int × List Bool × List Interface) (ρ := List Bool × List Interface) (fun s19367 =>
    bif decide (s19367.1 < (x17643.Routes.length : Int)) then (Option.bind (gxIdx x17643.Routes s19367.1) fun y19389 =>
    Option.bind (gxIdx s19367.2.2 y19389.Target) fun y19396 =>
    Option.bind (α := Bool) (Option.bind (gxIdx x17643.Enabled s19367.1) fun y19419 =>
    bif y19419 then (Option.bind (gxIdx s19367.2.1 s19367.1) fun y19421 =>
    bif y19421 then (Option.bind (M.slices_Contains_136 y19396.Stack s19367.1) fun r19426 =>
    some (!r19426))
    else some false)
    else some false) fun o19416 =>
    Option.bind (α := List Bool × List Interface) (bif o19416 then (Option.bind (gxIdx s19367.2.1 s19367.1) fun y19526 =>
    Option.bind (M.i_raiseIrq (⟨y19396.Mask, y19396.Stack, (⟨y19396.Queue.Slots, y19396.Queue.Waiting⟩ : Queue)⟩ : Interface) s19367.1 y19389.Priority) fun r19537 =>
    some ((s19367.2.1.set s19367.1.toNat false), (s19367.2.2.set y19389.Target.toNat (⟨r19537.Mask, r19537.Stack, (⟨r19537.Queue.Slots, r19537.Queue.Waiting⟩ : Queue)⟩ : Interface))))
    else some (s19367.2.1, s19367.2.2)) fun o19517 =>
    some (.inl (w64 (s19367.1 + 1), o19517.1, o19517.2)))
    else some (.inr (s19367.2.1, s19367.2.2))) gxFuel (0, x17643.Raised, x17643.Cpus)) fun out19374 =>
  some (x17643.Routes, x17643.Enabled, out19374.1, out19374.2)
def M.i_runningPriority (x19689 : Interface) : Option (Int) :=
  bif (x19689.Stack.length : Int) == 0 then some 16
  else (Option.bind (gxIdx x19689.Stack (w64 ((x19689.Stack.length : Int) - 1))) fun y19707 =>
  Option.bind (M.i_priorityIn x19689.Queue.Slots y19707) fun r19708 =>
  some r19708)
def M.i_takeSlot (x19743 : List Slot) (x19748 : Int) : Option ((List Slot) × Int × Bool) :=
  Option.bind (M.i_pendingSlot x19743 true) fun r19754 =>
  Option.bind (α := Bool) (bif decide (r19754 < 0) then some true
  else (Option.bind (gxIdx x19743 r19754) fun y19764 =>
  some (decide (y19764.Priority ≥ x19748)))) fun o19760 =>
  bif o19760 then some (([] : List Slot), 0, false)
  else (Option.bind (gxIdx x19743 r19754) fun y19771 =>
  Option.bind (M.i_withSlot x19743 r19754 (⟨2, y19771.Irq, y19771.Priority⟩ : Slot)) fun r19782 =>
  some (r19782, y19771.Irq, true))
def M.i_takeQueue (x19715 : Queue) (x19724 : Int) : Option (Queue × Int × Bool) :=
  Option.bind (M.i_takeSlot x19715.Slots x19724) fun r19820 =>
  bif !r19820.2.2 then some ((⟨([] : List Slot), ([] : List Waiter)⟩ : Queue), 0, false)
  else (Option.bind (M.i_newQueue x19715) fun r19834 =>
  some ((⟨r19820.1, r19834.Waiting⟩ : Queue), r19820.2.1, true))
def M.i_takeIrq (x19651 : Interface) : Option (Interface × Int × Bool) :=
  Option.bind (M.i_runningPriority (⟨x19651.Mask, x19651.Stack, (⟨x19651.Queue.Slots, x19651.Queue.Waiting⟩ : Queue)⟩ : Interface)) fun r19714 =>
  Option.bind (M.i_takeQueue (⟨x19651.Queue.Slots, x19651.Queue.Waiting⟩ : Queue) (gxMin x19651.Mask r19714)) fun r19860 =>
  bif !r19860.2.2 then some ((⟨0, ([] : List Int), (⟨([] : List Slot), ([] : List Waiter)⟩ : Queue)⟩ : Interface), 0, false)
  else (Option.bind (M.i_copyInts x19651.Stack) fun r19949 =>
  Option.bind (gxApp 8 r19949 [r19860.2.1]) fun ap19960 =>
  some ((⟨x19651.Mask, ap19960, r19860.1⟩ : Interface), r19860.2.1, true))
def M.i_endSlot (x20143 : List Slot) (x20148 : Int) : Option ((List Slot) × Bool) :=
  Option.bind (M.i_findSlot x20143 x20148) fun r20154 =>
  Option.bind (α := Bool) (bif decide (r20154 < 0) then some true
  else (Option.bind (gxIdx x20143 r20154) fun y20168 =>
  Option.bind (M.i_isActive y20168) fun r20169 =>
  some (!r20169))) fun o20164 =>
  bif o20164 then some (([] : List Slot), false)
  else (Option.bind (gxIdx x20143 r20154) fun y20185 =>
  Option.bind (α := Int × Int × Int) (bif y20185.State == 3 then (Option.bind (gxIdx x20143 r20154) fun y20194 =>
  some (1, x20148, y20194.Priority))
  else some (0, 0, 0)) fun o20190 =>
  Option.bind (M.i_withSlot x20143 r20154 (⟨o20190.1, o20190.2.1, o20190.2.2⟩ : Slot)) fun r20201 =>
  some (r20201, true))
def M.i_endQueue (x20115 : Queue) (x20124 : Int) : Option (Queue × Bool) :=
  Option.bind (M.i_endSlot x20115.Slots x20124) fun r20210 =>
  bif !r20210.2 then some ((⟨([] : List Slot), ([] : List Waiter)⟩ : Queue), false)
  else (Option.bind (M.i_settled (⟨r20210.1, x20115.Waiting⟩ : Queue)) fun r20226 =>
  some (r20226, true))
def M.i_leaveIrq (x20070 : Interface) : Option (Interface × Int × Bool) :=
  bif decide ((w64 ((x20070.Stack.length : Int) - 1)) < 0) then some ((⟨0, ([] : List Int), (⟨([] : List Slot), ([] : List Waiter)⟩ : Queue)⟩ : Interface), 0, false)
  else (Option.bind (gxIdx x20070.Stack (w64 ((x20070.Stack.length : Int) - 1))) fun y20114 =>
  Option.bind (M.i_endQueue (⟨x20070.Queue.Slots, x20070.Queue.Waiting⟩ : Queue) y20114) fun r20242 =>
  Option.bind (gxSlice x20070.Stack 0 (w64 ((x20070.Stack.length : Int) - 1))) fun ys20316 =>
  Option.bind (M.i_copyInts ys20316) fun r20318 =>
  Option.bind (gxIdx x20070.Stack (w64 ((x20070.Stack.length : Int) - 1))) fun y20327 =>
  some ((⟨x20070.Mask, r20318, r20242.1⟩ : Interface), y20327, true))
def M.i_DrainCpu (x16861 : Machine) (x16878 : Int) : Option (Machine × (List Int) × Bool) :=
  Option.bind (α := Bool) (Option.bind (M.i_IsMachine x16861) fun r16925 =>
  bif !r16925 then some true
  else (Option.bind (M.i_Machine_hasCpu x16861 x16878) fun r16930 =>
  some (!r16930))) fun o16922 =>
  bif o16922 then some ((⟨([] : List Route), ([] : List Bool), ([] : List Bool), ([] : List Interface)⟩ : Machine), ([] : List Int), false)
  else (Option.bind (M.i_newMachine x16861) fun r17601 =>
  Option.bind (M.i_Machine_sync r17601) fun r19616 =>
  Option.bind (whileM (σ := List Int × List Interface) (ρ := Machine × (List Int) × Bool) (fun s20649 =>
    Option.bind (gxIdx s20649.2 x16878) fun y20667 =>
    Option.bind (M.i_takeIrq (⟨y20667.Mask, y20667.Stack, (⟨y20667.Queue.Slots, y20667.Queue.Waiting⟩ : Queue)⟩ : Interface)) fun r20677 =>
    bif !r20677.2.2 then some (.inr ((⟨r19616.1, r19616.2.1, r19616.2.2.1, s20649.2⟩ : Machine), s20649.1, true))
    else (Option.bind (gxApp 8 s20649.1 [r20677.2.1]) fun ap20715 =>
    Option.bind (M.i_leaveIrq (⟨r20677.1.Mask, r20677.1.Stack, (⟨r20677.1.Queue.Slots, r20677.1.Queue.Waiting⟩ : Queue)⟩ : Interface)) fun r20725 =>
    Option.bind (gxIdx s20649.2 x16878) fun y20741 =>
    some (.inl (ap20715, (s20649.2.set x16878.toNat (⟨r20725.1.Mask, r20725.1.Stack, (⟨r20725.1.Queue.Slots, r20725.1.Queue.Waiting⟩ : Queue)⟩ : Interface)))))) gxFuel (([] : List Int), r19616.2.2.2)) fun out20656 => some out20656)
def M.s_l21Step (x21602 : Machine) (x21619 : MachStep) : Option (Bool) :=
  Option.bind (M.s_l1In x21619.Cpu 0 (w64 ((x21602.Cpus.length : Int) - 1))) fun r21628 =>
  bif x21619.Kind == 1 then (Option.bind (α := Bool) (Option.bind (M.s_l6Irq x21619.Irq) fun r21642 =>
  bif r21642 then (bif x21619.Cpu == 0 then some (x21619.Value == 0)
  else some false)
  else some false) fun o21639 =>
  some o21639)
  else (bif x21619.Kind == 2 then (Option.bind (α := Bool) (bif x21619.Irq == 0 then (bif x21619.Cpu == 0 then some (x21619.Value == 0)
  else some false)
  else some false) fun o21655 =>
  some o21655)
  else (Option.bind (α := Bool) (bif x21619.Kind == 3 then some (x21619.Kind == 3)
  else some (x21619.Kind == 4)) fun o21665 =>
  bif o21665 then (Option.bind (α := Bool) (bif x21619.Irq == 0 then (bif r21628 then some (x21619.Value == 0)
  else some false)
  else some false) fun o21676 =>
  some o21676)
  else (bif x21619.Kind == 5 then (Option.bind (α := Bool) (bif x21619.Irq == 0 then (bif r21628 then (Option.bind (M.s_l1In x21619.Value 0 16) fun r21697 =>
  some r21697)
  else some false)
  else some false) fun o21692 =>
  some o21692)
  else (Option.bind (α := Bool) (bif x21619.Kind == 6 then (Option.bind (M.s_l6Irq x21619.Irq) fun r21720 =>
  bif r21720 then (bif x21619.Cpu == 0 then (Option.bind (M.s_l1In x21619.Value 0 1) fun r21726 =>
  some r21726)
  else some false)
  else some false)
  else some false) fun o21716 =>
  some o21716))))
def M.s_StepMachine (x21546 : Machine) (x21563 : MachStep) : Option (Machine × Int × Bool) :=
  Option.bind (α := Bool) (Option.bind (M.s_l21Good x21546) fun r21741 =>
  bif !r21741 then some true
  else (Option.bind (M.s_l21Step x21546 x21563) fun r21746 =>
  some (!r21746))) fun o21738 =>
  bif o21738 then some ((⟨([] : List Route), ([] : List Bool), ([] : List Bool), ([] : List Interface)⟩ : Machine), 0, false)
  else (Option.bind (M.s_l21Make x21546 x21563) fun r21761 =>
  bif !r21761.2.2 then some ((⟨([] : List Route), ([] : List Bool), ([] : List Bool), ([] : List Interface)⟩ : Machine), 0, false)
  else some (r21761.1, r21761.2.1, true))
def M.i_isMachStep (x21983 : Machine) (x22000 : MachStep) : Option (Bool) :=
  bif x22000.Kind == 1 then (Option.bind (α := Bool) (Option.bind (M.i_isIrq x22000.Irq) fun r22019 =>
  bif r22019 then (bif x22000.Cpu == 0 then some (x22000.Value == 0)
  else some false)
  else some false) fun o22016 =>
  some o22016)
  else (bif x22000.Kind == 2 then some ((x22000.Kind == 2) && ((x22000.Irq == 0) && ((x22000.Cpu == 0) && ((x22000.Value == 0) && true))))
  else (Option.bind (α := Bool) (bif x22000.Kind == 3 then some (x22000.Kind == 3)
  else some (x22000.Kind == 4)) fun o22031 =>
  bif o22031 then (Option.bind (α := Bool) (bif x22000.Irq == 0 then (Option.bind (M.i_Machine_hasCpu x21983 x22000.Cpu) fun r22050 =>
  bif r22050 then some (x22000.Value == 0)
  else some false)
  else some false) fun o22046 =>
  some o22046)
  else (bif x22000.Kind == 5 then (Option.bind (α := Bool) (bif x22000.Irq == 0 then (Option.bind (M.i_Machine_hasCpu x21983 x22000.Cpu) fun r22074 =>
  bif r22074 then (Option.bind (M.i_isMask x22000.Value) fun r22079 =>
  some r22079)
  else some false)
  else some false) fun o22070 =>
  some o22070)
  else (bif x22000.Kind == 6 then (Option.bind (α := Bool) (Option.bind (M.i_isIrq x22000.Irq) fun r22101 =>
  bif r22101 then (bif x22000.Cpu == 0 then (Option.bind (M.i_inside x22000.Value 0 1) fun r22107 =>
  some r22107)
  else some false)
  else some false) fun o22098 =>
  some o22098)
  else some false))))
def M.i_stepMachine (x22142 : Machine) (x22159 : MachStep) : Option (Machine × Int × Bool) :=
  Option.bind (M.i_newMachine x22142) fun r22193 =>
  Option.bind (α := Int × Bool × List Route × List Bool × List Bool × List Interface × List Bool × List Bool × List Interface) (bif x22159.Kind == 1 then (Option.bind (gxIdx x22142.Raised x22159.Irq) fun y24857 =>
  Option.bind (gxIdx r22193.Raised x22159.Irq) fun y24858 =>
  some ((-1), !y24857, r22193.Routes, r22193.Enabled, (r22193.Raised.set x22159.Irq.toNat true), r22193.Cpus, r22193.Enabled, (r22193.Raised.set x22159.Irq.toNat true), r22193.Cpus))
  else (Option.bind (α := Int × Bool × List Route × List Bool × List Bool × List Interface × List Bool × List Interface) (bif x22159.Kind == 2 then (Option.bind (M.i_Machine_sync r22193) fun r26172 =>
  some ((-1), true, r26172.1, r26172.2.1, r26172.2.2.1, r26172.2.2.2, r22193.Enabled, r22193.Cpus))
  else (Option.bind (α := Int × Bool × List Bool × List Interface) (bif x22159.Kind == 3 then (Option.bind (gxIdx x22142.Cpus x22159.Cpu) fun y26828 =>
  Option.bind (M.i_takeIrq (⟨y26828.Mask, y26828.Stack, (⟨y26828.Queue.Slots, y26828.Queue.Waiting⟩ : Queue)⟩ : Interface)) fun r26838 =>
  Option.bind (gxIdx r22193.Cpus x22159.Cpu) fun y26854 =>
  some (r26838.2.1, r26838.2.2, r22193.Enabled, (r22193.Cpus.set x22159.Cpu.toNat (⟨r26838.1.Mask, r26838.1.Stack, (⟨r26838.1.Queue.Slots, r26838.1.Queue.Waiting⟩ : Queue)⟩ : Interface))))
  else (Option.bind (α := Int × Bool × List Bool × List Interface) (bif x22159.Kind == 4 then (Option.bind (gxIdx x22142.Cpus x22159.Cpu) fun y27210 =>
  Option.bind (M.i_leaveIrq (⟨y27210.Mask, y27210.Stack, (⟨y27210.Queue.Slots, y27210.Queue.Waiting⟩ : Queue)⟩ : Interface)) fun r27220 =>
  Option.bind (gxIdx r22193.Cpus x22159.Cpu) fun y27236 =>
  some (r27220.2.1, r27220.2.2, r22193.Enabled, (r22193.Cpus.set x22159.Cpu.toNat (⟨r27220.1.Mask, r27220.1.Stack, (⟨r27220.1.Queue.Slots, r27220.1.Queue.Waiting⟩ : Queue)⟩ : Interface))))
  else (Option.bind (α := List Bool × List Interface) (bif x22159.Kind == 5 then (Option.bind (gxIdx r22193.Cpus x22159.Cpu) fun y27397 =>
  some (r22193.Enabled, (r22193.Cpus.set x22159.Cpu.toNat (⟨x22159.Value, y27397.Stack, (⟨y27397.Queue.Slots, y27397.Queue.Waiting⟩ : Queue)⟩ : Interface))))
  else (Option.bind (α := List Bool) (bif x22159.Kind == 6 then (Option.bind (gxIdx r22193.Enabled x22159.Irq) fun y27427 =>
  some (r22193.Enabled.set x22159.Irq.toNat (x22159.Value == 1)))
  else some r22193.Enabled) fun o27421 =>
  some (o27421, r22193.Cpus))) fun o27388 =>
  some ((-1), true, o27388.1, o27388.2))) fun o27199 =>
  some (o27199.1, o27199.2.1, o27199.2.2.1, o27199.2.2.2))) fun o26817 =>
  some (o26817.1, o26817.2.1, r22193.Routes, o26817.2.2.1, r22193.Raised, o26817.2.2.2, o26817.2.2.1, o26817.2.2.2))) fun o26142 =>
  some (o26142.1, o26142.2.1, o26142.2.2.1, o26142.2.2.2.1, o26142.2.2.2.2.1, o26142.2.2.2.2.2.1, o26142.2.2.2.2.2.2.1, r22193.Raised, o26142.2.2.2.2.2.2.2))) fun o24825 =>
  some ((⟨o24825.2.2.1, o24825.2.2.2.1, o24825.2.2.2.2.1, o24825.2.2.2.2.2.1⟩ : Machine), o24825.1, o24825.2.1)
def M.i_StepMachine (x21927 : Machine) (x21944 : MachStep) : Option (Machine × Int × Bool) :=
  Option.bind (α := Bool) (Option.bind (M.i_IsMachine x21927) fun r22122 =>
  bif !r22122 then some true
  else (Option.bind (M.i_isMachStep x21927 x21944) fun r22127 =>
  some (!r22127))) fun o22119 =>
  bif o22119 then some ((⟨([] : List Route), ([] : List Bool), ([] : List Bool), ([] : List Interface)⟩ : Machine), 0, false)
  else (Option.bind (M.i_stepMachine x21927 x21944) fun r27459 =>
  bif !r27459.2.2 then some ((⟨([] : List Route), ([] : List Bool), ([] : List Bool), ([] : List Interface)⟩ : Machine), 0, false)
  else some (r27459.1, r27459.2.1, true))
def M.l_vBig (x30769 : List Int) : Option (Bool) :=
  some (decide ((x30769.length : Int) > 65536))
def M.s_l1Cur_next (x30861 : l1Cur) : Option (Int × Int × Int) :=
  Option.bind (α := Int) (bif decide (x30861.at_ < (x30861.code.length : Int)) then (Option.bind (gxIdx x30861.code x30861.at_) fun y30879 =>
  some (w64 y30879))
  else some 0) fun o30875 =>
  bif decide ((w64 (x30861.at_ + 1)) ≤ (x30861.code.length : Int)) then some (o30875, w64 (x30861.at_ + 1), IntKind.u64.wrap ((IntKind.u64.wrap ((IntKind.u64.wrap (x30861.seed * 6364136223846793005)) + (IntKind.u64.wrap o30875))) + 843843))
  else some (w64 (gxAnd .u64 ((IntKind.u64.wrap ((IntKind.u64.wrap ((IntKind.u64.wrap (x30861.seed * 6364136223846793005)) + (IntKind.u64.wrap o30875))) + 843843)).fdiv (2 ^ 40)) 255), w64 (x30861.at_ + 1), IntKind.u64.wrap ((IntKind.u64.wrap ((IntKind.u64.wrap (x30861.seed * 6364136223846793005)) + (IntKind.u64.wrap o30875))) + 843843))
def M.s_l1Cur_pick (x30851 : l1Cur) (x30859 : Int) : Option (Int × Int × Int) :=
  bif decide (x30859 ≤ 1) then some (0, x30851.at_, x30851.seed)
  else (Option.bind (M.s_l1Cur_next x30851) fun r30893 =>
  Option.bind (α := Int × Int × Int) (bif decide (x30859 > 200) then (Option.bind (M.s_l1Cur_next (⟨x30851.code, r30893.2.1, r30893.2.2⟩ : l1Cur)) fun r30906 =>
  some (w64 ((w64 (r30893.1 * 256)) + r30906.1), r30906.2.1, r30906.2.2))
  else some (r30893.1, r30893.2.1, r30893.2.2)) fun o30902 =>
  Option.bind (gxRem o30902.1 x30859) fun q30914 =>
  some (q30914, o30902.2.1, o30902.2.2))
def M.s_NewMachine (x31028 : List Route) (x31033 : Int) : Option (Machine × Bool) :=
  Option.bind (M.s_l21Routes x31028 x31033) fun r31059 =>
  bif !r31059 then some ((⟨([] : List Route), ([] : List Bool), ([] : List Bool), ([] : List Interface)⟩ : Machine), false)
  else (Option.bind (gxApp 16 ([] : List Route) x31028) fun ap31077 =>
  Option.bind (gxMake 1 8 (false : Bool)) fun mk31083 =>
  Option.bind (gxMake 1 8 (false : Bool)) fun mk31089 =>
  Option.bind (whileM (σ := Int × List Interface) (ρ := List Interface) (fun s31270 =>
    bif decide (s31270.1 < x31033) then (Option.bind (gxApp 80 s31270.2 [(⟨16, ([] : List Int), (⟨[(⟨0, 0, 0⟩ : Slot), (⟨0, 0, 0⟩ : Slot), (⟨0, 0, 0⟩ : Slot), (⟨0, 0, 0⟩ : Slot)], ([] : List Waiter)⟩ : Queue)⟩ : Interface)]) fun ap31332 =>
    some (.inl (w64 (s31270.1 + 1), ap31332)))
    else some (.inr s31270.2)) gxFuel (0, ([] : List Interface))) fun out31277 =>
  some ((⟨ap31077, mk31083, mk31089, out31277⟩ : Machine), true))
def M.s_l1Cur_one (x31395 : l1Cur) (x31403 : Int) : Option (Bool × Int × Int) :=
  Option.bind (M.s_l1Cur_pick x31395 x31403) fun r31404 =>
  some (r31404.1 == 0, r31404.2.1, r31404.2.2)
def M.s_l1Most (x31693 : Int) (x31694 : Int) : Option (Int) :=
  bif decide (x31693 > x31694) then some x31693
  else some x31694
def M.s_l1Cur_among (x31795 : l1Cur) (x31803 : List Int) : Option (Int × Int × Int) :=
  Option.bind (M.s_l1Cur_pick x31795 (x31803.length : Int)) fun r31809 =>
  Option.bind (gxIdx x31803 r31809.1) fun y31813 =>
  some (y31813, r31809.2.1, r31809.2.2)
def M.s_l1Cur_machStep (x31656 : l1Cur) (x31664 : Machine) : Option (MachStep × Int × Int) :=
  Option.bind (M.s_l1Most 1 (x31664.Cpus.length : Int)) fun r31696 =>
  Option.bind (M.s_l1Cur_pick x31656 r31696) fun r31700 =>
  Option.bind (M.s_l1Cur_pick (⟨x31656.code, r31700.2.1, r31700.2.2⟩ : l1Cur) 12) fun r31704 =>
  Option.bind (α := Bool) (bif r31704.1 == 0 then some (r31704.1 == 0)
  else (Option.bind (α := Bool) (bif r31704.1 == 1 then some (r31704.1 == 1)
  else some (r31704.1 == 2)) fun o31723 =>
  some o31723)) fun o31718 =>
  bif o31718 then (Option.bind (M.s_l1Cur_pick (⟨x31656.code, r31704.2.1, r31704.2.2⟩ : l1Cur) 8) fun r31736 =>
  some ((⟨1, r31736.1, 0, 0⟩ : MachStep), r31736.2.1, r31736.2.2))
  else (Option.bind (α := Bool) (bif r31704.1 == 3 then some (r31704.1 == 3)
  else some (r31704.1 == 4)) fun o31743 =>
  bif o31743 then some ((⟨2, 0, 0, 0⟩ : MachStep), r31704.2.1, r31704.2.2)
  else (Option.bind (α := Bool) (bif r31704.1 == 5 then some (r31704.1 == 5)
  else (Option.bind (α := Bool) (bif r31704.1 == 6 then some (r31704.1 == 6)
  else some (r31704.1 == 7)) fun o31769 =>
  some o31769)) fun o31764 =>
  bif o31764 then some ((⟨3, 0, r31700.1, 0⟩ : MachStep), r31704.2.1, r31704.2.2)
  else (bif r31704.1 == 8 then some ((⟨4, 0, r31700.1, 0⟩ : MachStep), r31704.2.1, r31704.2.2)
  else (bif r31704.1 == 9 then (Option.bind (M.s_l1Cur_among (⟨x31656.code, r31704.2.1, r31704.2.2⟩ : l1Cur) [16, 16, 8, 4, 0]) fun r31814 =>
  some ((⟨5, 0, r31700.1, r31814.1⟩ : MachStep), r31814.2.1, r31814.2.2))
  else (bif r31704.1 == 10 then (Option.bind (M.s_l1Cur_pick (⟨x31656.code, r31704.2.1, r31704.2.2⟩ : l1Cur) 8) fun r31821 =>
  Option.bind (M.s_l1Cur_among (⟨x31656.code, r31821.2.1, r31821.2.2⟩ : l1Cur) [1, 1, 0]) fun r31832 =>
  some ((⟨6, r31821.1, 0, r31832.1⟩ : MachStep), r31832.2.1, r31832.2.2))
  else (Option.bind (M.s_l1Cur_one (⟨x31656.code, r31704.2.1, r31704.2.2⟩ : l1Cur) 4) fun r31838 =>
  bif r31838.1 then (Option.bind (M.s_l1Cur_among (⟨x31656.code, r31838.2.1, r31838.2.2⟩ : l1Cur) [0, 7, 1, 5]) fun r31850 =>
  Option.bind (M.s_l1Cur_among (⟨x31656.code, r31850.2.1, r31850.2.2⟩ : l1Cur) [0, 8, (-1)]) fun r31861 =>
  Option.bind (M.s_l1Cur_among (⟨x31656.code, r31861.2.1, r31861.2.2⟩ : l1Cur) [0, 2]) fun r31872 =>
  Option.bind (M.s_l1Cur_among (⟨x31656.code, r31872.2.1, r31872.2.2⟩ : l1Cur) [0, 17]) fun r31883 =>
  some ((⟨r31850.1, r31861.1, r31872.1, r31883.1⟩ : MachStep), r31883.2.1, r31883.2.2))
  else some ((⟨2, 0, 0, 0⟩ : MachStep), r31838.2.1, r31838.2.2)))))))
def M.s_l1Cur_slots (x37801 : l1Cur) : Option ((List Slot) × Int × Int) :=
  Option.bind (M.s_l1Cur_pick x37801 9) fun r37821 =>
  Option.bind (whileM (σ := List Slot × Int × Int × Int) (ρ := List Slot × Int × Int) (fun s38986 =>
    bif decide (s38986.2.1 > 0) then (Option.bind (M.s_l1Cur_pick (⟨x37801.code, s38986.2.2.1, s38986.2.2.2⟩ : l1Cur) 4) fun r39008 =>
    Option.bind (α := Bool) (bif r39008.1 == 0 then some (r39008.1 == 0)
    else some (r39008.1 == 1)) fun o39013 =>
    Option.bind (α := List Slot × Int × Int) (bif o39013 then (Option.bind (M.s_l1Cur_pick (⟨x37801.code, r39008.2.1, r39008.2.2⟩ : l1Cur) 8) fun r39306 =>
    Option.bind (M.s_l1Cur_pick (⟨x37801.code, r39306.2.1, r39306.2.2⟩ : l1Cur) 8) fun r39310 =>
    Option.bind (M.s_l8Put s38986.1 r39306.1 r39310.1) fun r39314 =>
    Option.bind (α := List Slot) (bif r39314.2 then some r39314.1
    else some s38986.1) fun o39324 =>
    some (o39324, r39310.2.1, r39310.2.2))
    else (Option.bind (α := List Slot × Int × Int) (bif r39008.1 == 2 then (gxAlt (M.s_l8Take__k s38986.1 16) (fun r39462 =>
      some (s38986.1, r39008.2.1, r39008.2.2))
    (Option.bind (M.s_l8Take s38986.1 16) fun r39466 =>
    some (r39466.1, r39008.2.1, r39008.2.2)))
    else (Option.bind (α := List Slot × Int × Int) (bif r39008.1 == 3 then (Option.bind (M.s_l1Cur_pick (⟨x37801.code, r39008.2.1, r39008.2.2⟩ : l1Cur) 8) fun r39529 =>
    Option.bind (M.s_l8End s38986.1 r39529.1) fun r39533 =>
    Option.bind (α := Bool × Int × Int) (bif r39533.2 then (Option.bind (M.s_l1Cur_one (⟨x37801.code, r39529.2.1, r39529.2.2⟩ : l1Cur) 2) fun r39551 =>
    some (r39551.1, r39551.2.1, r39551.2.2))
    else some (false, r39529.2.1, r39529.2.2)) fun o39547 =>
    Option.bind (α := List Slot) (bif o39547.1 then some r39533.1
    else some s38986.1) fun o39560 =>
    some (o39560, o39547.2.1, o39547.2.2))
    else some (s38986.1, r39008.2.1, r39008.2.2)) fun o39520 =>
    some (o39520.1, o39520.2.1, o39520.2.2))) fun o39453 =>
    some (o39453.1, o39453.2.1, o39453.2.2))) fun o39297 =>
    some (.inl (o39297.1, w64 (s38986.2.1 - 1), o39297.2.1, o39297.2.2)))
    else some (.inr (s38986.1, s38986.2.2.1, s38986.2.2.2))) gxFuel ([(⟨0, 0, 0⟩ : Slot), (⟨0, 0, 0⟩ : Slot), (⟨0, 0, 0⟩ : Slot), (⟨0, 0, 0⟩ : Slot)], r37821.1, r37821.2.1, r37821.2.2)) fun out38993 =>
  Option.bind (M.s_l1Cur_pick (⟨x37801.code, out38993.2.1, out38993.2.2⟩ : l1Cur) 24) fun r39589 =>
  Option.bind (α := List Slot × Int × Int × List Slot) (bif r39589.1 == 0 then (Option.bind (M.s_l1Cur_pick (⟨x37801.code, r39589.2.1, r39589.2.2⟩ : l1Cur) 4) fun r39733 =>
  Option.bind (M.s_l1Cur_among (⟨x37801.code, r39733.2.1, r39733.2.2⟩ : l1Cur) [(-1), 4, 1]) fun r39744 =>
  Option.bind (M.s_l1Cur_among (⟨x37801.code, r39744.2.1, r39744.2.2⟩ : l1Cur) [(-1), 7, 8]) fun r39755 =>
  Option.bind (M.s_l1Cur_among (⟨x37801.code, r39755.2.1, r39755.2.2⟩ : l1Cur) [(-1), 15, 16]) fun r39766 =>
  Option.bind (gxIdx out38993.1 r39733.1) fun y39770 =>
  some ((out38993.1.set r39733.1.toNat (⟨r39744.1, r39755.1, r39766.1⟩ : Slot)), r39766.2.1, r39766.2.2, (out38993.1.set r39733.1.toNat (⟨r39744.1, r39755.1, r39766.1⟩ : Slot))))
  else (Option.bind (α := List Slot) (bif r39589.1 == 1 then (Option.bind (gxApp 24 out38993.1 [(⟨0, 0, 0⟩ : Slot)]) fun ap39828 =>
  some ap39828)
  else (Option.bind (α := List Slot) (bif r39589.1 == 2 then (Option.bind (gxIdx out38993.1 3) fun y39848 =>
  some (out38993.1.set (3 : Int).toNat (⟨0, 1, 0⟩ : Slot)))
  else some out38993.1) fun o39842 =>
  some o39842)) fun o39812 =>
  some (o39812, r39589.2.1, r39589.2.2, out38993.1))) fun o39722 =>
  some (o39722.1, o39722.2.1, o39722.2.2.1)
def M.s_l1Cur_irq (x39879 : l1Cur) : Option (Int × Int × Int) :=
  Option.bind (M.s_l1Cur_one x39879 20) fun r39887 =>
  bif r39887.1 then (Option.bind (M.s_l1Cur_among (⟨x39879.code, r39887.2.1, r39887.2.2⟩ : l1Cur) [(-1), 8]) fun r39899 =>
  some (r39899.1, r39899.2.1, r39899.2.2))
  else (Option.bind (M.s_l1Cur_pick (⟨x39879.code, r39887.2.1, r39887.2.2⟩ : l1Cur) 8) fun r39903 =>
  some (r39903.1, r39903.2.1, r39903.2.2))
def M.s_l1Cur_prio (x39908 : l1Cur) : Option (Int × Int × Int) :=
  Option.bind (M.s_l1Cur_among x39908 [0, 1, 2, 3, 5, 8, 15, 4, 4, 7, 12, 16, (-1), 6]) fun r39923 =>
  some (r39923.1, r39923.2.1, r39923.2.2)
def M.s_l1Cur_queue (x34710 : l1Cur) : Option (Queue × Int × Int) :=
  Option.bind (M.s_l1Cur_pick x34710 14) fun r34756 =>
  Option.bind (whileM (σ := Int × Int × Int × List Slot × List Waiter) (ρ := Int × Int × List Slot × List Waiter) (fun s36764 =>
    bif decide (s36764.1 > 0) then (Option.bind (M.s_l1Cur_pick (⟨x34710.code, s36764.2.1, s36764.2.2.1⟩ : l1Cur) 5) fun r36796 =>
    Option.bind (α := Bool) (bif r36796.1 == 0 then some (r36796.1 == 0)
    else (Option.bind (α := Bool) (bif r36796.1 == 1 then some (r36796.1 == 1)
    else some (r36796.1 == 2)) fun o36815 =>
    some o36815)) fun o36810 =>
    Option.bind (α := Int × Int × List Slot × List Waiter) (bif o36810 then (Option.bind (M.s_l1Cur_pick (⟨x34710.code, r36796.2.1, r36796.2.2⟩ : l1Cur) 8) fun r37317 =>
    Option.bind (M.s_l1Cur_pick (⟨x34710.code, r37317.2.1, r37317.2.2⟩ : l1Cur) 8) fun r37318 =>
    Option.bind (M.s_l9Offer (⟨s36764.2.2.2.1, s36764.2.2.2.2⟩ : Queue) r37317.1 r37318.1) fun r37347 =>
    some (r37318.2.1, r37318.2.2, r37347.Slots, r37347.Waiting))
    else (Option.bind (α := Int × Int × List Slot × List Waiter) (bif r36796.1 == 3 then (Option.bind (M.s_l9Take (⟨s36764.2.2.2.1, s36764.2.2.2.2⟩ : Queue) 16) fun r37581 =>
    some (r36796.2.1, r36796.2.2, r37581.1.Slots, r37581.1.Waiting))
    else (Option.bind (α := Int × Int × List Slot × List Waiter) (bif r36796.1 == 4 then (Option.bind (M.s_l1Cur_pick (⟨x34710.code, r36796.2.1, r36796.2.2⟩ : l1Cur) 8) fun r37698 =>
    Option.bind (M.s_l9End (⟨s36764.2.2.2.1, s36764.2.2.2.2⟩ : Queue) r37698.1) fun r37699 =>
    Option.bind (α := List Slot × List Waiter) (bif r37699.2 then some (r37699.1.Slots, r37699.1.Waiting)
    else some (s36764.2.2.2.1, s36764.2.2.2.2)) fun o37760 =>
    some (r37698.2.1, r37698.2.2, o37760.1, o37760.2))
    else some (r36796.2.1, r36796.2.2, s36764.2.2.2.1, s36764.2.2.2.2)) fun o37682 =>
    some (o37682.1, o37682.2.1, o37682.2.2.1, o37682.2.2.2))) fun o37567 =>
    some (o37567.1, o37567.2.1, o37567.2.2.1, o37567.2.2.2))) fun o37301 =>
    some (.inl (w64 (s36764.1 - 1), o37301.1, o37301.2.1, o37301.2.2.1, o37301.2.2.2)))
    else some (.inr (s36764.2.1, s36764.2.2.1, s36764.2.2.2.1, s36764.2.2.2.2))) gxFuel (r34756.1, r34756.2.1, r34756.2.2, [(⟨0, 0, 0⟩ : Slot), (⟨0, 0, 0⟩ : Slot), (⟨0, 0, 0⟩ : Slot), (⟨0, 0, 0⟩ : Slot)], ([] : List Waiter))) fun out36771 =>
  Option.bind (M.s_l1Cur_pick (⟨x34710.code, out36771.1, out36771.2.1⟩ : l1Cur) 24) fun r37796 =>
  Option.bind (α := Int × Int × List Slot × List Waiter × List Slot) (bif r37796.1 == 0 then (Option.bind (M.s_l1Cur_slots (⟨x34710.code, r37796.2.1, r37796.2.2⟩ : l1Cur)) fun r40411 =>
  some (r40411.2.1, r40411.2.2, r40411.1, out36771.2.2.2, out36771.2.2.1))
  else (Option.bind (α := Int × Int × List Waiter × List Slot) (bif r37796.1 == 1 then (Option.bind (M.s_l1Cur_irq (⟨x34710.code, r37796.2.1, r37796.2.2⟩ : l1Cur)) fun r40664 =>
  Option.bind (M.s_l1Cur_prio (⟨x34710.code, r40664.2.1, r40664.2.2⟩ : l1Cur)) fun r40665 =>
  Option.bind (gxApp 16 out36771.2.2.2 [(⟨r40664.1, r40665.1⟩ : Waiter)]) fun ap40711 =>
  some (r40665.2.1, r40665.2.2, ap40711, out36771.2.2.1))
  else (Option.bind (α := Int × Int × List Slot) (bif r37796.1 == 2 then (Option.bind (α := Int × Int × List Slot) (bif decide ((out36771.2.2.2.length : Int) > 0) then (Option.bind (M.s_l1Cur_pick (⟨x34710.code, r37796.2.1, r37796.2.2⟩ : l1Cur) 4) fun r40850 =>
  Option.bind (gxIdx out36771.2.2.1 r40850.1) fun y40876 =>
  some (r40850.2.1, r40850.2.2, (out36771.2.2.1.set r40850.1.toNat (⟨0, 0, 0⟩ : Slot))))
  else some (r37796.2.1, r37796.2.2, out36771.2.2.1)) fun o40842 =>
  some (o40842.1, o40842.2.1, o40842.2.2))
  else some (r37796.2.1, r37796.2.2, out36771.2.2.1)) fun o40801 =>
  some (o40801.1, o40801.2.1, out36771.2.2.2, o40801.2.2))) fun o40651 =>
  some (o40651.1, o40651.2.1, o40651.2.2.2, o40651.2.2.1, o40651.2.2.2))) fun o40395 =>
  some ((⟨o40395.2.2.1, o40395.2.2.2.1⟩ : Queue), o40395.1, o40395.2.1)
def M.s_l1Cur_iface (x32610 : l1Cur) : Option (Interface × Int × Int) :=
  Option.bind (M.s_l1Cur_pick x32610 14) fun r32672 =>
  Option.bind (whileM (σ := Int × Int × Int × Int × List Int × List Slot × List Waiter) (ρ := Int × Int × Int × List Int × List Slot × List Waiter) (fun s33939 =>
    bif decide (s33939.1 > 0) then (Option.bind (M.s_l1Cur_pick (⟨x32610.code, s33939.2.1, s33939.2.2.1⟩ : l1Cur) 6) fun r33981 =>
    Option.bind (α := Bool) (bif r33981.1 == 0 then some (r33981.1 == 0)
    else (Option.bind (α := Bool) (bif r33981.1 == 1 then some (r33981.1 == 1)
    else some (r33981.1 == 2)) fun o34000 =>
    some o34000)) fun o33995 =>
    Option.bind (α := Int × Int × Int × List Int × List Slot × List Waiter) (bif o33995 then (Option.bind (M.s_l1Cur_pick (⟨x32610.code, r33981.2.1, r33981.2.2⟩ : l1Cur) 8) fun r34318 =>
    Option.bind (M.s_l1Cur_pick (⟨x32610.code, r34318.2.1, r34318.2.2⟩ : l1Cur) 12) fun r34319 =>
    Option.bind (M.s_l10Raise (⟨s33939.2.2.2.1, s33939.2.2.2.2.1, (⟨s33939.2.2.2.2.2.1, s33939.2.2.2.2.2.2⟩ : Queue)⟩ : Interface) r34318.1 r34319.1) fun r34348 =>
    some (r34319.2.1, r34319.2.2, r34348.Mask, r34348.Stack, r34348.Queue.Slots, r34348.Queue.Waiting))
    else (Option.bind (α := Bool) (bif r33981.1 == 3 then some (r33981.1 == 3)
    else some (r33981.1 == 4)) fun o34370 =>
    Option.bind (α := Int × List Int × List Slot × List Waiter) (bif o34370 then (Option.bind (M.s_l10Take (⟨s33939.2.2.2.1, s33939.2.2.2.2.1, (⟨s33939.2.2.2.2.2.1, s33939.2.2.2.2.2.2⟩ : Queue)⟩ : Interface)) fun r34497 =>
    some (r34497.1.Mask, r34497.1.Stack, r34497.1.Queue.Slots, r34497.1.Queue.Waiting))
    else (Option.bind (α := Int × List Int × List Slot × List Waiter) (bif r33981.1 == 5 then (gxAlt (M.s_l10Leave__k (⟨s33939.2.2.2.1, s33939.2.2.2.2.1, (⟨s33939.2.2.2.2.2.1, s33939.2.2.2.2.2.2⟩ : Queue)⟩ : Interface)) (fun r34565 =>
      some (r34565.1.Mask, s33939.2.2.2.2.1, s33939.2.2.2.2.2.1, s33939.2.2.2.2.2.2))
    (Option.bind (M.s_l10Leave (⟨s33939.2.2.2.1, s33939.2.2.2.2.1, (⟨s33939.2.2.2.2.2.1, s33939.2.2.2.2.2.2⟩ : Queue)⟩ : Interface)) fun r34571 =>
    some (r34571.1.Mask, r34571.1.Stack, r34571.1.Queue.Slots, r34571.1.Queue.Waiting)))
    else some (s33939.2.2.2.1, s33939.2.2.2.2.1, s33939.2.2.2.2.2.1, s33939.2.2.2.2.2.2)) fun o34546 =>
    some (o34546.1, o34546.2.1, o34546.2.2.1, o34546.2.2.2))) fun o34478 =>
    some (r33981.2.1, r33981.2.2, o34478.1, o34478.2.1, o34478.2.2.1, o34478.2.2.2))) fun o34297 =>
    some (.inl (w64 (s33939.1 - 1), o34297.1, o34297.2.1, o34297.2.2.1, o34297.2.2.2.1, o34297.2.2.2.2.1, o34297.2.2.2.2.2)))
    else some (.inr (s33939.2.1, s33939.2.2.1, s33939.2.2.2.1, s33939.2.2.2.2.1, s33939.2.2.2.2.2.1, s33939.2.2.2.2.2.2))) gxFuel (r32672.1, r32672.2.1, r32672.2.2, 16, ([] : List Int), [(⟨0, 0, 0⟩ : Slot), (⟨0, 0, 0⟩ : Slot), (⟨0, 0, 0⟩ : Slot), (⟨0, 0, 0⟩ : Slot)], ([] : List Waiter))) fun out33946 =>
  Option.bind (M.s_l1Cur_one (⟨x32610.code, out33946.1, out33946.2.1⟩ : l1Cur) 3) fun r34608 =>
  Option.bind (α := Int × Int × Int) (bif r34608.1 then (Option.bind (M.s_l1Cur_among (⟨x32610.code, r34608.2.1, r34608.2.2⟩ : l1Cur) [0, 4, 8, 15]) fun r34637 =>
  some (r34637.2.1, r34637.2.2, r34637.1))
  else some (r34608.2.1, r34608.2.2, out33946.2.2.1)) fun o34626 =>
  Option.bind (M.s_l1Cur_pick (⟨x32610.code, o34626.1, o34626.2.1⟩ : l1Cur) 24) fun r34647 =>
  Option.bind (α := Int × Int × Int × List Int × List Slot × List Waiter) (bif r34647.1 == 0 then (Option.bind (M.s_l1Cur_among (⟨x32610.code, r34647.2.1, r34647.2.2⟩ : l1Cur) [(-1), 17]) fun r41093 =>
  some (r41093.2.1, r41093.2.2, r41093.1, out33946.2.2.2.1, out33946.2.2.2.2.1, out33946.2.2.2.2.2))
  else (Option.bind (α := Int × Int × List Int × List Slot × List Waiter) (bif r34647.1 == 1 then (Option.bind (M.s_l1Cur_pick (⟨x32610.code, r34647.2.1, r34647.2.2⟩ : l1Cur) 8) fun r41215 =>
  Option.bind (gxApp 8 out33946.2.2.2.1 [r41215.1]) fun ap41246 =>
  some (r41215.2.1, r41215.2.2, ap41246, out33946.2.2.2.2.1, out33946.2.2.2.2.2))
  else (Option.bind (α := Int × Int × List Slot × List Waiter) (bif r34647.1 == 2 then (Option.bind (M.s_l1Cur_queue (⟨x32610.code, r34647.2.1, r34647.2.2⟩ : l1Cur)) fun r41287 =>
  some (r41287.2.1, r41287.2.2, r41287.1.Slots, r41287.1.Waiting))
  else some (r34647.2.1, r34647.2.2, out33946.2.2.2.2.1, out33946.2.2.2.2.2)) fun o41273 =>
  some (o41273.1, o41273.2.1, out33946.2.2.2.1, o41273.2.2.1, o41273.2.2.2))) fun o41194 =>
  some (o41194.1, o41194.2.1, o34626.2.2, o41194.2.2.1, o41194.2.2.2.1, o41194.2.2.2.2))) fun o41067 =>
  some ((⟨o41067.2.2.1, o41067.2.2.2.1, (⟨o41067.2.2.2.2.1, o41067.2.2.2.2.2⟩ : Queue)⟩ : Interface), o41067.1, o41067.2.1)
def M.s_l1Cur_machine (x30818 : l1Cur) : Option (Machine × Int × Int) :=
  Option.bind (M.s_l1Cur_pick x30818 2) fun r30915 =>
  Option.bind (whileM (σ := List Route × Int × Int × Int) (ρ := List Route × Int × Int) (fun s30979 =>
    bif decide (s30979.2.1 < 8) then (Option.bind (M.s_l1Cur_pick (⟨x30818.code, s30979.2.2.1, s30979.2.2.2⟩ : l1Cur) 10) fun r31001 =>
    Option.bind (M.s_l1Cur_pick (⟨x30818.code, r31001.2.1, r31001.2.2⟩ : l1Cur) (w64 (1 + r30915.1))) fun r31005 =>
    Option.bind (gxApp 16 s30979.1 [(⟨r31001.1, r31005.1⟩ : Route)]) fun ap31016 =>
    some (.inl (ap31016, w64 (s30979.2.1 + 1), r31005.2.1, r31005.2.2)))
    else some (.inr (s30979.1, s30979.2.2.1, s30979.2.2.2))) gxFuel (([] : List Route), 0, r30915.2.1, r30915.2.2)) fun out30986 =>
  Option.bind (M.s_NewMachine out30986.1 (w64 (1 + r30915.1))) fun r31357 =>
  Option.bind (whileM (σ := Int × Int × Int × List Bool × List Bool) (ρ := Int × Int × List Bool × List Bool) (fun s31555 =>
    bif decide (s31555.1 < 8) then (Option.bind (M.s_l1Cur_one (⟨x30818.code, s31555.2.1, s31555.2.2.1⟩ : l1Cur) 4) fun r31577 =>
    Option.bind (gxIdx s31555.2.2.2.1 s31555.1) fun y31607 =>
    Option.bind (M.s_l1Cur_one (⟨x30818.code, r31577.2.1, r31577.2.2⟩ : l1Cur) 2) fun r31615 =>
    Option.bind (gxIdx s31555.2.2.2.2 s31555.1) fun y31641 =>
    some (.inl (w64 (s31555.1 + 1), r31615.2.1, r31615.2.2, (s31555.2.2.2.1.set s31555.1.toNat (!r31577.1)), (s31555.2.2.2.2.set s31555.1.toNat r31615.1))))
    else some (.inr (s31555.2.1, s31555.2.2.1, s31555.2.2.2.1, s31555.2.2.2.2))) gxFuel (0, out30986.2.1, out30986.2.2, r31357.1.Enabled, r31357.1.Raised)) fun out31562 =>
  Option.bind (M.s_l1Cur_pick (⟨x30818.code, out31562.1, out31562.2.1⟩ : l1Cur) 14) fun r31651 =>
  Option.bind (whileM (σ := Int × Int × Int × List Route × List Bool × List Bool × List Interface) (ρ := Int × Int × List Route × List Bool × List Bool × List Interface) (fun s32277 =>
    bif decide (s32277.1 > 0) then (Option.bind (M.s_l1Cur_machStep (⟨x30818.code, s32277.2.1, s32277.2.2.1⟩ : l1Cur) (⟨s32277.2.2.2.1, s32277.2.2.2.2.1, s32277.2.2.2.2.2.1, s32277.2.2.2.2.2.2⟩ : Machine)) fun r32331 =>
    Option.bind (M.s_l21Step (⟨s32277.2.2.2.1, s32277.2.2.2.2.1, s32277.2.2.2.2.2.1, s32277.2.2.2.2.2.2⟩ : Machine) r32331.1) fun r32341 =>
    Option.bind (α := List Route × List Bool × List Bool × List Interface) (bif r32341 then (Option.bind (M.s_l21Make (⟨s32277.2.2.2.1, s32277.2.2.2.2.1, s32277.2.2.2.2.2.1, s32277.2.2.2.2.2.2⟩ : Machine) r32331.1) fun r32440 =>
    Option.bind (α := List Route × List Bool × List Bool × List Interface) (bif r32440.2.2 then some (r32440.1.Routes, r32440.1.Enabled, r32440.1.Raised, r32440.1.Cpus)
    else some (s32277.2.2.2.1, s32277.2.2.2.2.1, s32277.2.2.2.2.2.1, s32277.2.2.2.2.2.2)) fun o32478 =>
    some (o32478.1, o32478.2.1, o32478.2.2.1, o32478.2.2.2))
    else some (s32277.2.2.2.1, s32277.2.2.2.2.1, s32277.2.2.2.2.2.1, s32277.2.2.2.2.2.2)) fun o32415 =>
    some (.inl (w64 (s32277.1 - 1), r32331.2.1, r32331.2.2, o32415.1, o32415.2.1, o32415.2.2.1, o32415.2.2.2)))
    else some (.inr (s32277.2.1, s32277.2.2.1, s32277.2.2.2.1, s32277.2.2.2.2.1, s32277.2.2.2.2.2.1, s32277.2.2.2.2.2.2))) gxFuel (r31651.1, r31651.2.1, r31651.2.2, r31357.1.Routes, out31562.2.2.1, out31562.2.2.2, r31357.1.Cpus)) fun out32284 =>
  Option.bind (M.s_l1Cur_pick (⟨x30818.code, out32284.1, out32284.2.1⟩ : l1Cur) 24) fun r32517 =>
  Option.bind (α := Int × Int × List Bool × List Interface × List Route × List Interface) (bif r32517.1 == 0 then (Option.bind (M.s_l1Cur_pick (⟨x30818.code, r32517.2.1, r32517.2.2⟩ : l1Cur) 8) fun r42307 =>
  Option.bind (M.s_l1Cur_among (⟨x30818.code, r42307.2.1, r42307.2.2⟩ : l1Cur) [3, 16]) fun r42313 =>
  Option.bind (M.s_l1Cur_pick (⟨x30818.code, r42313.2.1, r42313.2.2⟩ : l1Cur) 3) fun r42314 =>
  Option.bind (gxIdx out32284.2.2.1 r42307.1) fun y42366 =>
  some (r42314.2.1, r42314.2.2, out32284.2.2.2.2.1, out32284.2.2.2.2.2, (out32284.2.2.1.set r42307.1.toNat (⟨r42313.1, r42314.1⟩ : Route)), out32284.2.2.2.2.2))
  else (Option.bind (α := Int × Int × List Bool × List Interface × List Interface) (bif r32517.1 == 1 then (Option.bind (gxApp 1 out32284.2.2.2.2.1 [false]) fun ap42881 =>
  some (r32517.2.1, r32517.2.2, ap42881, out32284.2.2.2.2.2, out32284.2.2.2.2.2))
  else (Option.bind (α := Int × Int × List Interface × List Interface) (bif r32517.1 == 2 then (Option.bind (M.s_l1Cur_iface (⟨x30818.code, r32517.2.1, r32517.2.2⟩ : l1Cur)) fun r43131 =>
  Option.bind (gxIdx out32284.2.2.2.2.2 0) fun y43168 =>
  some (r43131.2.1, r43131.2.2, (out32284.2.2.2.2.2.set (0 : Int).toNat (⟨r43131.1.Mask, r43131.1.Stack, (⟨r43131.1.Queue.Slots, r43131.1.Queue.Waiting⟩ : Queue)⟩ : Interface)), (out32284.2.2.2.2.2.set (0 : Int).toNat (⟨r43131.1.Mask, r43131.1.Stack, (⟨r43131.1.Queue.Slots, r43131.1.Queue.Waiting⟩ : Queue)⟩ : Interface))))
  else (Option.bind (α := Int × Int × List Interface) (bif r32517.1 == 3 then (Option.bind (M.s_l1Cur_iface (⟨x30818.code, r32517.2.1, r32517.2.2⟩ : l1Cur)) fun r43279 =>
  Option.bind (gxApp 80 out32284.2.2.2.2.2 [(⟨r43279.1.Mask, r43279.1.Stack, (⟨r43279.1.Queue.Slots, r43279.1.Queue.Waiting⟩ : Queue)⟩ : Interface)]) fun ap43330 =>
  some (r43279.2.1, r43279.2.2, ap43330))
  else some (r32517.2.1, r32517.2.2, out32284.2.2.2.2.2)) fun o43267 =>
  some (o43267.1, o43267.2.1, o43267.2.2, out32284.2.2.2.2.2))) fun o43116 =>
  some (o43116.1, o43116.2.1, out32284.2.2.2.2.1, o43116.2.2.1, o43116.2.2.2))) fun o42856 =>
  some (o42856.1, o42856.2.1, o42856.2.2.1, o42856.2.2.2.1, out32284.2.2.1, o42856.2.2.2.2))) fun o42285 =>
  some ((⟨o42285.2.2.2.2.1, out32284.2.2.2.1, o42285.2.2.1, o42285.2.2.2.1⟩ : Machine), o42285.1, o42285.2.1)
def M.s_DrawStepMachine (x30779 : List Int) : Option (Machine × MachStep) :=
  Option.bind (M.s_l1Cur_machine (⟨x30779, 0, 0⟩ : l1Cur)) fun r43367 =>
  Option.bind (M.s_l1Cur_machStep (⟨x30779, r43367.2.1, r43367.2.2⟩ : l1Cur) r43367.1) fun r43404 =>
  some (r43367.1, r43404.1)
def M.l_vRoutes (x43589 : List Route) (x43594 : List Route) : Option (Bool) :=
  bif (x43589.length : Int) != (x43594.length : Int) then some false
  else (Option.bind (whileM (σ := Int) (ρ := (Unit) ⊕ (Bool)) (fun s43612 =>
    bif decide (s43612 < (x43589.length : Int)) then (Option.bind (gxIdx x43589 s43612) fun y43624 =>
    Option.bind (gxIdx x43594 s43612) fun y43625 =>
    bif !((y43624.Priority == y43625.Priority) && ((y43624.Target == y43625.Target) && true)) then some (.inr (.inr false))
    else some (.inl (w64 (s43612 + 1))))
    else some (.inr (.inl ()))) gxFuel 0) fun out43619 => Sum.elim (fun (o43622 : Unit) =>
  some true) (fun r => some r) out43619)
def M.l_vBools (x43638 : List Bool) (x43643 : List Bool) : Option (Bool) :=
  bif (x43638.length : Int) != (x43643.length : Int) then some false
  else (Option.bind (whileM (σ := Int) (ρ := (Unit) ⊕ (Bool)) (fun s43661 =>
    bif decide (s43661 < (x43638.length : Int)) then (Option.bind (gxIdx x43638 s43661) fun y43673 =>
    Option.bind (gxIdx x43643 s43661) fun y43674 =>
    bif !(y43673 == y43674) then some (.inr (.inr false))
    else some (.inl (w64 (s43661 + 1))))
    else some (.inr (.inl ()))) gxFuel 0) fun out43668 => Sum.elim (fun (o43671 : Unit) =>
  some true) (fun r => some r) out43668)
def M.l_vInts (x43771 : List Int) (x43776 : List Int) : Option (Bool) :=
  bif (x43771.length : Int) != (x43776.length : Int) then some false
  else (Option.bind (whileM (σ := Int) (ρ := (Unit) ⊕ (Bool)) (fun s43794 =>
    bif decide (s43794 < (x43771.length : Int)) then (Option.bind (gxIdx x43771 s43794) fun y43806 =>
    Option.bind (gxIdx x43776 s43794) fun y43807 =>
    bif y43806 != y43807 then some (.inr (.inr false))
    else some (.inl (w64 (s43794 + 1))))
    else some (.inr (.inl ()))) gxFuel 0) fun out43801 => Sum.elim (fun (o43804 : Unit) =>
  some true) (fun r => some r) out43801)
def M.l_vSlots (x43846 : List Slot) (x43851 : List Slot) : Option (Bool) :=
  bif (x43846.length : Int) != (x43851.length : Int) then some false
  else (Option.bind (whileM (σ := Int) (ρ := (Unit) ⊕ (Bool)) (fun s43869 =>
    bif decide (s43869 < (x43846.length : Int)) then (Option.bind (gxIdx x43846 s43869) fun y43881 =>
    Option.bind (gxIdx x43851 s43869) fun y43882 =>
    bif !((y43881.State == y43882.State) && ((y43881.Irq == y43882.Irq) && ((y43881.Priority == y43882.Priority) && true))) then some (.inr (.inr false))
    else some (.inl (w64 (s43869 + 1))))
    else some (.inr (.inl ()))) gxFuel 0) fun out43876 => Sum.elim (fun (o43879 : Unit) =>
  some true) (fun r => some r) out43876)
def M.l_vWaiters (x43895 : List Waiter) (x43900 : List Waiter) : Option (Bool) :=
  bif (x43895.length : Int) != (x43900.length : Int) then some false
  else (Option.bind (whileM (σ := Int) (ρ := (Unit) ⊕ (Bool)) (fun s43918 =>
    bif decide (s43918 < (x43895.length : Int)) then (Option.bind (gxIdx x43895 s43918) fun y43930 =>
    Option.bind (gxIdx x43900 s43918) fun y43931 =>
    bif !((y43930.Irq == y43931.Irq) && ((y43930.Priority == y43931.Priority) && true)) then some (.inr (.inr false))
    else some (.inl (w64 (s43918 + 1))))
    else some (.inr (.inl ()))) gxFuel 0) fun out43925 => Sum.elim (fun (o43928 : Unit) =>
  some true) (fun r => some r) out43925)
def M.l_vQueue (x43820 : Queue) (x43829 : Queue) : Option (Bool) :=
  Option.bind (α := Bool) (Option.bind (M.l_vSlots x43820.Slots x43829.Slots) fun r43946 =>
  bif r43946 then (Option.bind (M.l_vWaiters x43820.Waiting x43829.Waiting) fun r43951 =>
  some r43951)
  else some false) fun o43943 =>
  some o43943
def M.l_vFace (x43736 : Interface) (x43749 : Interface) : Option (Bool) :=
  Option.bind (α := Bool) (bif x43736.Mask == x43749.Mask then (Option.bind (M.l_vInts x43736.Stack x43749.Stack) fun r43967 =>
  bif r43967 then (Option.bind (M.l_vQueue (⟨x43736.Queue.Slots, x43736.Queue.Waiting⟩ : Queue) (⟨x43749.Queue.Slots, x43749.Queue.Waiting⟩ : Queue)) fun r43972 =>
  some r43972)
  else some false)
  else some false) fun o43963 =>
  some o43963
def M.l_vMachine (x43547 : Machine) (x43564 : Machine) : Option (Bool) :=
  Option.bind (α := Bool) (Option.bind (M.l_vRoutes x43547.Routes x43564.Routes) fun r43695 =>
  bif !r43695 then some true
  else (Option.bind (M.l_vBools x43547.Enabled x43564.Enabled) fun r43700 =>
  bif !r43700 then some true
  else (Option.bind (M.l_vBools x43547.Raised x43564.Raised) fun r43705 =>
  bif !r43705 then some true
  else some ((x43547.Cpus.length : Int) != (x43564.Cpus.length : Int))))) fun o43692 =>
  bif o43692 then some false
  else (Option.bind (whileM (σ := Int) (ρ := (Unit) ⊕ (Bool)) (fun s44015 =>
    bif decide (s44015 < (x43547.Cpus.length : Int)) then (Option.bind (gxIdx x43547.Cpus s44015) fun y44027 =>
    Option.bind (gxIdx x43564.Cpus s44015) fun y44037 =>
    Option.bind (M.l_vFace (⟨y44027.Mask, y44027.Stack, (⟨y44027.Queue.Slots, y44027.Queue.Waiting⟩ : Queue)⟩ : Interface) (⟨y44037.Mask, y44037.Stack, (⟨y44037.Queue.Slots, y44037.Queue.Waiting⟩ : Queue)⟩ : Interface)) fun r44047 =>
    bif !r44047 then some (.inr (.inr false))
    else some (.inl (w64 (s44015 + 1))))
    else some (.inr (.inl ()))) gxFuel 0) fun out44022 => Sum.elim (fun (o44025 : Unit) =>
  some true) (fun r => some r) out44022)
def M.s_l1Cur_cpuOf (x44377 : l1Cur) (x44385 : Machine) : Option (Int × Int × Int) :=
  Option.bind (M.s_l1Cur_one x44377 20) fun r44410 =>
  bif r44410.1 then (Option.bind (M.s_l1Cur_among (⟨x44377.code, r44410.2.1, r44410.2.2⟩ : l1Cur) [(-1), (x44385.Cpus.length : Int)]) fun r44422 =>
  some (r44422.1, r44422.2.1, r44422.2.2))
  else (Option.bind (M.s_l1Most 1 (x44385.Cpus.length : Int)) fun r44426 =>
  Option.bind (M.s_l1Cur_pick (⟨x44377.code, r44410.2.1, r44410.2.2⟩ : l1Cur) r44426) fun r44430 =>
  some (r44430.1, r44430.2.1, r44430.2.2))
def M.s_DrawPendingOn (x44305 : List Int) : Option (Machine × Int) :=
  Option.bind (M.s_l1Cur_machine (⟨x44305, 0, 0⟩ : l1Cur)) fun r44340 =>
  Option.bind (M.s_l1Cur_cpuOf (⟨x44305, r44340.2.1, r44340.2.2⟩ : l1Cur) r44340.1) fun r44434 =>
  some (r44340.1, r44434.1)
def M.s_DrawDrainCpu (x44275 : List Int) : Option (Machine × Int) :=
  Option.bind (M.s_DrawPendingOn x44275) fun r44458 =>
  some (r44458.1, r44458.2)
def M.s_l1Cur_routes (x44970 : l1Cur) (x44978 : Int) : Option ((List Route) × Int × Int) :=
  Option.bind (whileM (σ := List Route × Int × Int × Int) (ρ := List Route × Int × Int) (fun s45052 =>
    bif decide (s45052.2.1 < 8) then (Option.bind (M.s_l1Cur_pick (⟨x44970.code, s45052.2.2.1, s45052.2.2.2⟩ : l1Cur) 10) fun r45074 =>
    Option.bind (M.s_l1Most 1 x44978) fun r45078 =>
    Option.bind (M.s_l1Cur_pick (⟨x44970.code, r45074.2.1, r45074.2.2⟩ : l1Cur) r45078) fun r45082 =>
    Option.bind (gxApp 16 s45052.1 [(⟨r45074.1, r45082.1⟩ : Route)]) fun ap45093 =>
    some (.inl (ap45093, w64 (s45052.2.1 + 1), r45082.2.1, r45082.2.2)))
    else some (.inr (s45052.1, s45052.2.2.1, s45052.2.2.2))) gxFuel (([] : List Route), 0, x44970.at_, x44970.seed)) fun out45059 =>
  Option.bind (M.s_l1Cur_pick (⟨x44970.code, out45059.2.1, out45059.2.2⟩ : l1Cur) 32) fun r45105 =>
  Option.bind (α := List Route × Int × Int × List Route) (bif r45105.1 == 0 then (Option.bind (gxSlice out45059.1 0 7) fun ys45188 =>
  some (ys45188, r45105.2.1, r45105.2.2, out45059.1))
  else (Option.bind (α := Int × Int × List Route) (bif r45105.1 == 1 then (Option.bind (M.s_l1Cur_among (⟨x44970.code, r45105.2.1, r45105.2.2⟩ : l1Cur) [(-1), 15, 16]) fun r45231 =>
  Option.bind (M.s_l1Cur_among (⟨x44970.code, r45231.2.1, r45231.2.2⟩ : l1Cur) [(-1), 0, 2]) fun r45242 =>
  Option.bind (gxIdx out45059.1 0) fun y45246 =>
  some (r45242.2.1, r45242.2.2, (out45059.1.set (0 : Int).toNat (⟨r45231.1, r45242.1⟩ : Route))))
  else some (r45105.2.1, r45105.2.2, out45059.1)) fun o45218 =>
  some (o45218.2.2, o45218.1, o45218.2.1, o45218.2.2))) fun o45177 =>
  some (o45177.1, o45177.2.1, o45177.2.2.1)
def M.s_DrawNewMachine (x44944 : List Int) : Option ((List Route) × Int) :=
  Option.bind (M.s_l1Cur_among (⟨x44944, 0, 0⟩ : l1Cur) [1, 2, 2, 1, 0, 3, 2]) fun r44966 =>
  Option.bind (M.s_l1Cur_routes (⟨x44944, r44966.2.1, r44966.2.2⟩ : l1Cur) r44966.1) fun r45259 =>
  some (r45259.1, r44966.1)
def M.i_NewMachine (x45277 : List Route) (x45282 : Int) : Option (Machine × Bool) :=
  Option.bind (M.i_areRoutes x45277 x45282) fun r45308 =>
  bif !r45308 then some ((⟨([] : List Route), ([] : List Bool), ([] : List Bool), ([] : List Interface)⟩ : Machine), false)
  else (Option.bind (gxApp 16 ([] : List Route) x45277) fun ap45326 =>
  Option.bind (gxMake 1 8 (false : Bool)) fun mk45332 =>
  Option.bind (gxMake 1 8 (false : Bool)) fun mk45338 =>
  Option.bind (whileM (σ := Int × List Interface) (ρ := List Interface) (fun s45577 =>
    bif decide (s45577.1 < x45282) then (Option.bind (gxMake 24 4 ((⟨0, 0, 0⟩ : Slot) : Slot)) fun mk45608 =>
    Option.bind (gxApp 80 s45577.2 [(⟨16, ([] : List Int), (⟨mk45608, ([] : List Waiter)⟩ : Queue)⟩ : Interface)]) fun ap45668 =>
    some (.inl (w64 (s45577.1 + 1), ap45668)))
    else some (.inr s45577.2)) gxFuel (0, ([] : List Interface))) fun out45584 =>
  some ((⟨ap45326, mk45332, mk45338, out45584⟩ : Machine), true))
def M.l_FnMachines (x30764 : List Int) : Option (Bool) :=
  Option.bind (M.l_vBig x30764) fun r30774 =>
  bif r30774 then some true
  else (Option.bind (M.s_DrawStepMachine x30764) fun r43430 =>
  Option.bind (M.i_StepMachine r43430.1 r43430.2) fun r43471 =>
  Option.bind (M.s_StepMachine r43430.1 r43430.2) fun r43506 =>
  Option.bind (α := Bool) (bif !(r43471.2.2 == r43506.2.2) then some true
  else (bif r43471.2.1 != r43506.2.1 then some true
  else (Option.bind (M.l_vMachine r43471.1 r43506.1) fun r44094 =>
  bif !r44094 then some true
  else (Option.bind (M.i_IsMachine r43430.1) fun r44101 =>
  Option.bind (M.s_IsMachine r43430.1) fun r44105 =>
  bif !(r44101 == r44105) then some true
  else (bif r43471.2.2 then (Option.bind (M.i_IsMachine r43471.1) fun r44113 =>
  some (!r44113))
  else some false))))) fun o44085 =>
  bif o44085 then some false
  else (Option.bind (α := Bool) (bif r43471.2.2 then some (r43430.2.Kind == 3)
  else some false) fun o44127 =>
  Option.bind (α := (Unit) ⊕ (Bool)) (bif o44127 then (Option.bind (M.i_PendingOn r43430.1 r43430.2.Cpu) fun r44206 =>
  Option.bind (M.i_PendingOn r43471.1 r43430.2.Cpu) fun r44215 =>
  Option.bind (M.i_RunningOn r43471.1 r43430.2.Cpu) fun r44224 =>
  Option.bind (α := Bool) (bif !r44206.2 then some true
  else (bif !r44215.2 then some true
  else (bif !r44224.2 then some true
  else (bif (r44206.1.length : Int) == 0 then some true
  else (Option.bind (gxIdx r44206.1 0) fun y44255 =>
  bif y44255 != r43471.2.1 then some true
  else (Option.bind (gxSlice r44206.1 1 (r44206.1.length : Int)) fun ys44257 =>
  Option.bind (M.l_vInts r44215.1 ys44257) fun r44259 =>
  bif !r44259 then some true
  else (bif (r44224.1.length : Int) == 0 then some true
  else (Option.bind (gxIdx r44224.1 (w64 ((r44224.1.length : Int) - 1))) fun y44265 =>
  some (y44265 != r43471.2.1))))))))) fun o44248 =>
  bif o44248 then some (.inr false)
  else some (.inl ()))
  else some (.inl ())) fun out44204 => Sum.elim (fun (o44201 : Unit) =>
  Option.bind (M.s_DrawDrainCpu x30764) fun r44485 =>
  Option.bind (M.i_DrainCpu r44485.1 r44485.2) fun r44520 =>
  Option.bind (M.s_DrainCpu r44485.1 r44485.2) fun r44560 =>
  Option.bind (α := Bool) (bif !(r44520.2.2 == r44560.2.2) then some true
  else (Option.bind (M.l_vInts r44520.2.1 r44560.2.1) fun r44614 =>
  bif !r44614 then some true
  else (Option.bind (M.l_vMachine r44520.1 r44560.1) fun r44619 =>
  some (!r44619)))) fun o44610 =>
  bif o44610 then some false
  else (Option.bind (α := (Unit) ⊕ (Bool)) (bif r44520.2.2 then (Option.bind (M.i_StepMachine r44485.1 (⟨2, 0, 0, 0⟩ : MachStep)) fun r44787 =>
  Option.bind (M.i_PendingOn r44787.1 r44485.2) fun r44822 =>
  Option.bind (M.i_PendingOn r44520.1 r44485.2) fun r44831 =>
  Option.bind (M.i_RunningOn r44485.1 r44485.2) fun r44840 =>
  Option.bind (M.i_RunningOn r44520.1 r44485.2) fun r44849 =>
  Option.bind (α := Bool) (bif !r44787.2.2 then some true
  else (bif !r44822.2 then some true
  else (bif !r44831.2 then some true
  else (bif !r44840.2 then some true
  else (bif !r44849.2 then some true
  else (Option.bind (M.l_vInts r44840.1 r44849.1) fun r44903 =>
  bif !r44903 then some true
  else (Option.bind (gxApp 8 ([] : List Int) r44520.2.1) fun ap44915 =>
  Option.bind (gxApp 8 ap44915 r44831.1) fun ap44923 =>
  Option.bind (M.l_vInts ap44923 r44822.1) fun r44931 =>
  some (!r44931)))))))) fun o44895 =>
  bif o44895 then some (.inr false)
  else some (.inl ()))
  else some (.inl ())) fun out44785 => Sum.elim (fun (o44782 : Unit) =>
  Option.bind (M.s_DrawNewMachine x30764) fun r45268 =>
  Option.bind (M.i_NewMachine r45268.1 r45268.2) fun r45693 =>
  Option.bind (M.s_NewMachine r45268.1 r45268.2) fun r45728 =>
  Option.bind (α := Bool) (bif !(r45693.2 == r45728.2) then some true
  else (Option.bind (M.l_vMachine r45693.1 r45728.1) fun r45772 =>
  some (!r45772))) fun o45768 =>
  bif o45768 then some false
  else (bif r45693.2 then (Option.bind (M.i_IsIdle r45693.1) fun r45782 =>
  Option.bind (α := Bool) (bif r45782.2 then some r45782.1
  else some false) fun o45787 =>
  some o45787)
  else some true)) (fun r => some r) out44785)) (fun r => some r) out44204))
end Go.Proofs.YtllhajkgkghhdaaGreat
set_option linter.unusedVariables false
namespace Go.Gx
abbrev iv (x : Int) : Value := .int .i64 x
abbrev pB (b off : Nat) : Value := .pointer (some ⟨b, off, none⟩)
section
variable {α : Type} {E : Enc α} {F : List Nat} {w0 w w' : World} {Ls : List Seg} {xs ys : List α} {p q : Option Addr} {c : Nat} {seg : Seg}
variable {P : Program} {ops : Array Oper} {n : Nat} {Q : Exit → Act → World → Prop} {S S' : Store} {l rest : List Oper} {o : Oper}
theorem wR (m : Nat) (S' : Store) (w' : World) (k : W P ops n Q S' w' (l.drop m)) (h : ((runP P ops n m l S w).bind fun r => (sub S' r.1).map fun s => (s, r.2)) = some (S', w') := by kernel_rfl) : W P ops n Q S w l := W_run m S' w' h k
theorem wV (v : Value) (w' : World) (hr : (execOp (rho S) o).run P w = .ok (.value v) w') (k : W P ops n Q (putS S o.dst v) w' rest) (hok : okAll ops n S o = true := by kernel_rfl) : W P ops n Q S w (o :: rest) := W_val v w' hok hr k
theorem wK (k : Nat) {b : Bool} (c : Bool) (hb : b = c) (h : W P ops n Q ((k, .bool c) :: S) w l) (hk : look S k = some (.bool b) := by kernel_rfl) : W P ops n Q S w l := W_known k c hk hb h
theorem zV {C : World → Prop} {K : Act → Prop} (v : Value) (hr : ∀ w, C w → (execOp (rho S) o).run P w = .ok (.value v) w) (k : Z P ops n C K (putS S o.dst v) rest) (hok : okAll ops n S o = true := by kernel_rfl) : Z P ops n C K S (o :: rest) := Z_val v hok hr k
theorem zK {C : World → Prop} {K : Act → Prop} (k : Nat) {b : Bool} (c : Bool) (hb : b = c) (h : Z P ops n C K ((k, .bool c) :: S) l) (hk : look S k = some (.bool b) := by kernel_rfl) : Z P ops n C K S l := Z_known k c hk hb h
theorem cE {f : FuncId} {fn : Func} {cd : Code} {args : List Value} {R : Ending → World → Prop} (hf : P.funcs[f]? = some fn) (h : G P fn.ntmps cd (bodyPost P fn R) (initS 0 args) w) (hb : fn.body = some cd := by rfl) (hs : Nat.ble args.length fn.ntmps = true := by kernel_rfl) : Calls P f args.toArray w R := C_enter hf hb hs h
theorem rC {t : Nat} {v : Value} {rs : List ResultVar} {vs : List Value} (hs : RVs P S w rs vs) (h : look S t = some v := by kernel_rfl) : RVs P S w (.tmp t :: rs) (v :: vs) := ⟨h, hs⟩
theorem gT {cd : Operand} {b : Bool} {x y : Code} (hb : b = true) (ht : G P n x Q S w) (hc : evalO S cd = some (.bool b) := by kernel_rfl) : G P n (.cond cd x y) Q S w := G_cond_t hb hc ht
theorem gF {cd : Operand} {b : Bool} {x y : Code} (hb : b = false) (ht : G P n y Q S w) (hc : evalO S cd = some (.bool b) := by kernel_rfl) : G P n (.cond cd x y) Q S w := G_cond_f hb hc ht
theorem oE {B1 : Value → Seg → Prop} {R : List Seg} (v : Value) (s : Seg) {d : Nat} (hb : B1 v s) (hM : Mem F w0 w (Ls ++ ([s] ++ R))) (hd : o.dst = some d := by rfl) (hv : look S d = some v := by kernel_rfl) :
    N n (Q1 fun a' w' => a'.defers = [] ∧ ∃ v s, (∀ d, o.dst = some d → a'.tmps[d]? = some v) ∧ B1 v s ∧ Mem F w0 w' (Ls ++ ([s] ++ R))) .normal S w := ob_end v s hd hv hb hM
theorem eL (g : Bool) (k off : Nat) {t : TypeId} {x : Operand} {b : Nat} {cs : List Value} {e : TypeId} {fr : Nat × Nat} {v : Value} (hb : w.heap[b]? = some (.cells ⟨cs⟩ e fr)) (ho : o.op = .load t x := by rfl)
    (hx : evalO S x = some (.pointer (some ⟨b, off, none⟩)) := by kernel_rfl) (hs : shapeT P t = some (g, k) := by kernel_rfl) (hv : loadV g k cs off = some v := by kernel_rfl) : (execOp (rho S) o).run P w = .ok (.value v) w := E_load t x g k b off cs v ho hx hs hv hb
theorem eI {t : TypeId} {x ix : Operand} {len c : Nat} {i : Int} {k : Nat} {y : α} (hrd : rdS E w xs p c) (hlen : xs.length = len) (hm : gxIdx xs i = some y) (ho : o.op = .indexAddr t x ix := by rfl)
    (hx : evalO S x = some (.slice p len c) := by kernel_rfl) (hi : evalO S ix = some (.int .i64 i) := by kernel_rfl) (ht : sliceElem P t = some k := by kernel_rfl) : (execOp (rho S) o).run P w = .ok (.value (elemP p (i.toNat * k))) w := E_index t x ix len c .i64 i k ho hx hi ht hrd hlen hm
theorem eE (g : Bool) (k f m : Nat) {t : TypeId} {x : Operand} {i : Int} {y : α} {v : Value} (hrd : rdS E w xs p c) (hi : gxIdx xs i = some y) (hm : m = i.toNat * E.k + f := by rfl) (ho : o.op = .load t x := by rfl)
    (hx : evalO S x = some (elemP p m) := by kernel_rfl) (hs : shapeT P t = some (g, k) := by kernel_rfl) (hv : loadV g k (E.cells y) f = some v := by kernel_rfl) : (execOp (rho S) o).run P w = .ok (.value v) w := E_loadE t x g k i f m y v ho hx hs hv hrd hi hm
theorem eF {s : TypeId} {x : Operand} (fld m f : Nat) {y : α} {i : Int} (hrd : rdS E w xs p c) (hi : gxIdx xs i = some y) (ho : o.op = .fieldAddr s x fld := by rfl) (hx : evalO S x = some (elemP p m) := by kernel_rfl) (hf : fieldOff P s fld = some f := by kernel_rfl) : (execOp (rho S) o).run P w = .ok (.value (elemP p (m + f))) w := E_fieldE s x fld m f ho hx hf hrd hi
theorem wS (g : Bool) (k off : Nat) (v : Value) (i : Nat) (cs' : List Value) {b : Nat} {cs : List Value} {e : TypeId} {t : TypeId} {x y : Operand} (hM : Mem F w0 w Ls) (hi : Ls.getD i [] = [(b, .cells ⟨cs⟩ e (0, 0))])
    (kk : ∀ w', Mem F w0 w' (Ls.set i [(b, .cells ⟨cs'⟩ e (0, 0))]) → W P ops n Q (putS S o.dst undef) w' rest) (ho : o.op = .store t x y := by rfl) (hok : okAll ops n S o = true := by kernel_rfl) (hx : evalO S x = some (.pointer (some ⟨b, off, none⟩)) := by kernel_rfl) (hy : evalO S y = some v := by kernel_rfl)
    (hs : shapeT P t = some (g, k) := by kernel_rfl) (hk : Nat.beq v.cells.toList.length k = true := by kernel_rfl) (hone : v.cells.toList.all oneB = true := by kernel_rfl)
    (hl : Nat.ble (off + k) cs.length = true := by kernel_rfl) (hc' : splice cs off v.cells.toList = cs' := by kernel_rfl) : W P ops n Q S w (o :: rest) := W_store t x y g k b off cs e v i cs' hM hok ho hx hy hs hk hone hi hl hc' kk
theorem wE (g : Bool) (k i f m : Nat) (y y' : α) (v : Value) (pl : Nat) {t : TypeId} {x z : Operand} (hM : Mem F w0 w Ls) (hown : ownS E xs p c seg) (hy : xs[i]? = some y)
    (kk : ∀ w' seg', ownS E (xs.set i y') p c seg' → Mem F w0 w' (Ls.set pl seg') → W P ops n Q (putS S o.dst undef) w' rest) (hm : m = i * E.k + f := by rfl) (ho : o.op = .store t x z := by rfl) (hi : Ls.getD pl [] = seg := by kernel_rfl) (hok : okAll ops n S o = true := by kernel_rfl) (hx : evalO S x = some (elemP p m) := by kernel_rfl) (hz : evalO S z = some v := by kernel_rfl)
    (hs : shapeT P t = some (g, k) := by kernel_rfl) (hk : Nat.beq v.cells.toList.length k = true := by kernel_rfl) (hone : v.cells.toList.all oneB = true := by kernel_rfl) (hfk : Nat.ble (f + k) E.k = true := by kernel_rfl)
    (hsp : splice (E.cells y) f v.cells.toList = E.cells y' := by kernel_rfl) : W P ops n Q S w (o :: rest) := W_storeE t x z g k i f m y y' v pl hM hown hi hok ho hx hz hs hk hone hfk hsp hy hm kk
theorem wN (ob : Obj) (hM : Mem F w0 w Ls) (kk : ∀ b w', Mem F w0 w' (Ls ++ [[(b, ob)]]) → W P ops n Q (putS S o.dst (.pointer (some ⟨b, 0, none⟩))) w' rest) (hfz : fzOf (some ob) = (0, 0) := by rfl) (hok : okAll ops n S o = true := by kernel_rfl) (hr : (execOp (rho S) o).run P w = .ok (.value ((fun b => .pointer (some ⟨b, 0, none⟩)) w.heap.size)) (w.alloc ob) := by kernel_rfl) :
    W P ops n Q S w (o :: rest) := W_new (fun b => .pointer (some ⟨b, 0, none⟩)) ob hM hfz hok hr kk
theorem wA (bytes : Nat) (zsv : List Value) (pl : Nat) {cy : Nat} {zz : List α} {t : TypeId} {s y : Operand} (hM : Mem F w0 w Ls) (hown : ownS E xs p c seg) (hrd : rdS E w ys q cy) (hm : gxApp bytes xs ys = some zz)
    (kk : ∀ p' c' seg' w', ownS E zz p' c' seg' → Mem F w0 w' (Ls.set pl seg') → W P ops n Q (putS S o.dst (.slice p' zz.length c')) w' rest) (ho : o.op = .call { callee := .builtin .append, args := #[s, y], argTypes := #[t, t] } := by rfl) (hpl : Ls.getD pl [] = seg := by kernel_rfl) (hlt : Nat.blt pl Ls.length = true := by kernel_rfl)
    (hok : okAll ops n S o = true := by kernel_rfl) (hs : evalO S s = some (.slice p xs.length c) := by kernel_rfl) (hy : evalO S y = some (.slice q ys.length cy) := by kernel_rfl)
    (hi : sliceInfo P t = some (E.k, bytes, zsv) := by kernel_rfl) (hz : Nat.beq zsv.length E.k = true := by kernel_rfl) (hk : Nat.blt 0 E.k = true := by kernel_rfl) (hbp : Nat.blt 0 bytes = true := by kernel_rfl) : W P ops n Q S w (o :: rest) := W_append t s y bytes zsv pl cy hM hown hpl hlt hok ho hs hy hi hz hk hbp hrd hm kk
theorem wL (xs : List α) (ln : Nat) (ob : List Value) (e : TypeId) (hM : Mem F w0 w Ls) (kk : ∀ p' c' seg' w', ownS E xs p' c' seg' → Mem F w0 w' (Ls ++ [seg']) → W P ops n Q (putS S o.dst (.slice p' xs.length c')) w' rest) (hok : okAll ops n S o = true := by kernel_rfl)
    (hr : (execOp (rho S) o).run P w = .ok (.value (.slice (some ⟨w.heap.size, 0, none⟩) ln ln)) (w.alloc (.cells ⟨ob⟩ e (0, 0))) := by kernel_rfl) (hcs : ob = flat E xs := by kernel_rfl) (hln : xs.length = ln := by kernel_rfl) (hmax : Nat.ble ln 1000000 = true := by kernel_rfl) : W P ops n Q S w (o :: rest) := W_lit xs ln ob e hM hok hr hcs hln hmax kk
theorem Mem.pk (h : Mem F w0 w Ls) (is : List Nat) (hd : distinct is = true := by kernel_rfl) : Mem F w0 w (Gx.pick Ls is) := Mem.pick h is hd
theorem Sat.s {a : Act} (h : Sat n S a) (hs : Gx.sub S' S = some S' := by kernel_rfl) : Sat n S' a := Sat.sub h hs
theorem a1 {id : Nat} {y : Code} (h : W P l.toArray n (Exit.then (y.wp P Q) Q) S w l) : G P n (.seq (.region id l.toArray false) y) Q S w := G_seq (G_region h)
theorem a2 {y : Code} (h : G P n y Q S w) : W P ops n (Exit.then (y.wp P Q) Q) S w [] := W_nil (N_then h)
end
end Go.Gx
set_option linter.unusedVariables false
namespace Go.Gx
def stP : Option (Store × World) → Store
  | some (s, _) => s
  | none => []
def valOf : Option (Result Next) → Value
  | some (.ok (.value v) _) => v
  | _ => undef
def valsP (P : Program) (ops : Array Oper) (n : Nat) : Nat → List Oper → Store → List Value
  | 0, _, _ => []
  | _ + 1, [], _ => []
  | m + 1, o :: r, S => valOf (oneZ P ops n S default o) :: valsP P ops n m r (putS S o.dst (valOf (oneZ P ops n S default o)))
section
variable {α : Type} {E : Enc α} {F : List Nat} {w0 w w' : World} {Ls : List Seg} {xs ys : List α} {p q : Option Addr} {c : Nat} {seg : Seg}
variable {P : Program} {ops : Array Oper} {n : Nat} {Q : Exit → Act → World → Prop} {S S' : Store} {l rest : List Oper} {o : Oper} {C : World → Prop} {K : Act → Prop}
theorem MW (m : Nat) (k : W P ops n Q (stP (runP P ops n m l S w)) w (l.drop m)) (h : (runP P ops n m l S w).map Prod.snd = some w := by kernel_rfl) : W P ops n Q S w l := by
  cases hr : runP P ops n m l S w with
  | none => rw [hr] at h; cases h
  | some r =>
    obtain ⟨s, v⟩ := r
    rw [hr] at h k
    obtain rfl := Option.some.inj h
    exact W_runP m l S _ hr k
theorem MZ (m : Nat) (k : Z P ops n C K (putL (valsP P ops n m l S) l S) (l.drop m)) (h : ∀ w, resL P ops n (valsP P ops n m l S) l S w = (valsP P ops n m l S).map (fun v => some (.ok (.value v) w)) := by (intro w_; kernel_rfl)) (hl : (valsP P ops n m l S).length = m := by kernel_rfl) : Z P ops n C K S l :=
  Z_runL (valsP P ops n m l S) h (hl.symm ▸ k)
theorem MS (m : Nat) (S' : Store) (k : Z P ops n C K S' (l.drop m)) (hs : sub S' (putL (valsP P ops n m l S) l S) = some S' := by kernel_rfl) (h : ∀ w, resL P ops n (valsP P ops n m l S) l S w = (valsP P ops n m l S).map (fun v => some (.ok (.value v) w)) := by (intro w_; kernel_rfl)) (hl : (valsP P ops n m l S).length = m := by kernel_rfl) : Z P ops n C K S l :=
  Z_runL (valsP P ops n m l S) h (Z_sub S' hs (hl.symm ▸ k))
theorem ZC {f : FuncId} {args : Array Value} (v : Value) (hc : ∀ w, Mem F w0 w Ls → Calls P f args w fun e w' => e = .returned v ∧ Mem [] w w' []) (k : Z P ops n (fun w' => Mem F w0 w' Ls) K (putS S o.dst v) rest) (hok : okAll ops n S o = true := by kernel_rfl) (hr : ∀ w, (execOp (rho S) o).run P w = .ok (.enter f args) w := by (intro w_; kernel_rfl)) : Z P ops n (fun w' => Mem F w0 w' Ls) K S (o :: rest) :=
  Z_call f args v hok hr (fun w hM => (hc w hM).mono fun e w2 h => ⟨h.1, hM.call0 h.2⟩) k
theorem WC {f : FuncId} {args : Array Value} (hc : Calls P f args w fun e w' => ∃ v, e = .returned v ∧ W P ops n Q (putS S o.dst v) w' rest) (hok : okAll ops n S o = true := by kernel_rfl) (hr : (execOp (rho S) o).run P w = .ok (.enter f args) w := by kernel_rfl) : W P ops n Q S w (o :: rest) := W_call f args hok hr hc
theorem WD {f : FuncId} {args : Array Value} {v : Value} (hc : Calls P f args w fun e w' => e = .returned v ∧ Mem [] w w' []) (hM : Mem F w0 w Ls) (kk : ∀ w', Mem F w0 w' Ls → W P ops n Q (putS S o.dst v) w' rest) (hok : okAll ops n S o = true := by kernel_rfl) (hr : (execOp (rho S) o).run P w = .ok (.enter f args) w := by kernel_rfl) : W P ops n Q S w (o :: rest) :=
  W_call f args hok hr (hc.mono fun e w' h => ⟨v, h.1, kk w' (hM.call0 h.2)⟩)
theorem HS {β : Type} {a b : β} (h : some a = some b) : a = b := Option.some.inj h
section
variable {l' : List Oper} {y z : Code} {id : Nat}
theorem NA (h : W P l'.toArray n (Exit.then (y.wp P Q) Q) S w l') : W P ops n (Exit.then ((Code.seq (.region id l'.toArray false) y).wp P Q) Q) S w [] := W_nil (N_then (G_seq (G_region h)))
theorem NB (h : W P l'.toArray n (Exit.then (y.wp P (Exit.then (z.wp P Q) Q)) (Exit.then (z.wp P Q) Q)) S w l') : W P ops n (Exit.then ((Code.seq (.seq (.region id l'.toArray false) y) z).wp P Q) Q) S w [] := W_nil (N_then (G_seq (G_seq (G_region h))))
theorem NC (h : N n Q .ret S w) : W P ops n (Exit.then (Code.ret.wp P Q) Q) S w [] := W_nil (N_then (G_ret h))
theorem ND {K : Act → World → Prop} (h : N n Q .ret S w) : W P ops n (Exit.then (Code.ret.wp P (Exit.then K Q)) (Exit.then K Q)) S w [] := W_nil (N_then (G_ret (N_then_ret h)))
theorem NE (h : G P n y (Exit.then (z.wp P Q) Q) S w) : W P ops n (Exit.then ((Code.seq y z).wp P Q) Q) S w [] := W_nil (N_then (G_seq h))
theorem NF (h : W P l'.toArray n (Exit.then (y.wp P Q) Q) S w l') : N n (Exit.then ((Code.seq (.region id l'.toArray false) y).wp P Q) Q) .normal S w := N_then (G_seq (G_region h))
theorem NO (h : G P n y Q S w) : W P ops n (Exit.then (y.wp P Q) Q) S w [] := W_nil (N_then h)
theorem NX {i : Nat} {K1 K2 : Act → World → Prop} (h : N n Q .ret S w) : W P ops n (Exit.then (Code.ret.wp P (Exit.inBlock i (Exit.then K1 (Exit.then K2 Q)))) (Exit.inBlock i (Exit.then K1 (Exit.then K2 Q)))) S w [] := W_nil (N_then (G_ret (N_block_ret (N_then_ret (N_then_ret h)))))
theorem NG {i : Nat} (h : W P l'.toArray n Q S w l') : W P ops n (Exit.inBlock i (Exit.then ((Code.region id l'.toArray false).wp P Q) Q)) S w [] := W_nil (N_block (N_then (G_region h)))
theorem KA (h : W P l'.toArray n (Exit.then (y.wp P Q) Q) S w l') : G P n .skip (Exit.then ((Code.seq (.region id l'.toArray false) y).wp P Q) Q) S w := G_skip (N_then (G_seq (G_region h)))
theorem KB (h : W P l'.toArray n (Exit.then (y.wp P (Exit.then (z.wp P Q) Q)) (Exit.then (z.wp P Q) Q)) S w l') : G P n .skip (Exit.then ((Code.seq (.seq (.region id l'.toArray false) y) z).wp P Q) Q) S w := G_skip (N_then (G_seq (G_seq (G_region h))))
theorem KC {i : Nat} (h : W P l'.toArray n Q S w l') : G P n .skip (Exit.inBlock i (Exit.then ((Code.region id l'.toArray false).wp P Q) Q)) S w := G_skip (N_block (N_then (G_region h)))
theorem KD {i : Nat} (h : W P l'.toArray n (Exit.then (y.wp P (Exit.inBlock i (Exit.then (z.wp P Q) Q))) (Exit.inBlock i (Exit.then (z.wp P Q) Q))) S w l') : G P n .skip (Exit.then ((Code.seq (.block i (.seq (.region id l'.toArray false) y)) z).wp P Q) Q) S w := G_skip (N_then (G_seq (G_block (G_seq (G_region h)))))
theorem XA {K1 K2 : Act → World → Prop} (h : N n Q .normal S w) : G P n (.exit id) (Exit.then K1 (Exit.then K2 (Exit.inBlock id Q))) S w := G_exit (N_then_exit (N_then_exit (N_block_eq h)))
theorem QA (h : W P l'.toArray n (Exit.then (y.wp P Q) Q) S w l') : G P n (.seq (.region id l'.toArray false) y) Q S w := G_seq (G_region h)
theorem QB (h : W P l'.toArray n (Exit.then (y.wp P (Exit.then (z.wp P Q) Q)) (Exit.then (z.wp P Q) Q)) S w l') : G P n (.seq (.seq (.region id l'.toArray false) y) z) Q S w := G_seq (G_seq (G_region h))
theorem WN (h : N n Q .normal S w) : W P ops n Q S w [] := W_nil h
theorem TN (h : G P n y Q S w) : N n (Exit.then (y.wp P Q) Q) .normal S w := h
theorem TR {K : Act → World → Prop} (h : N n Q .ret S w) : N n (Exit.then K Q) .ret S w := h
theorem TE {K : Act → World → Prop} {id : Nat} (h : N n Q (.exit id) S w) : N n (Exit.then K Q) (.exit id) S w := h
theorem GS (h : G P n y (Exit.then (z.wp P Q) Q) S w) : G P n (.seq y z) Q S w := G_seq h
theorem GR (h : W P l'.toArray n Q S w l') : G P n (.region id l'.toArray false) Q S w := G_region h
theorem GK (h : N n Q .normal S w) : G P n .skip Q S w := G_skip h
theorem GB (h : G P n y (Exit.inBlock id Q) S w) : G P n (.block id y) Q S w := G_block h
theorem BN (h : N n Q .normal S w) : N n (Exit.inBlock id Q) .normal S w := h
theorem BR (h : N n Q .ret S w) : N n (Exit.inBlock id Q) .ret S w := h
end
theorem RA {fn : Func} {R : Ending → World → Prop} (vs : List Value) (hR : R (.returned (retV vs)) w) (h : RVs P S w fn.results.toList vs := by first | exact rC RVs_nil | exact rC (rC RVs_nil) | exact rC (rC (rC RVs_nil)) | exact rC (rC (rC (rC RVs_nil)))) : N n (bodyPost P fn R) .ret S w := N_ret vs h hR
theorem RX (g : Bool) (k off : Nat) {t : Nat} {ty : TypeId} {b : Nat} {cs : List Value} {e : TypeId} {fr : Nat × Nat} {v : Value} {rs : List ResultVar} {vs : List Value} (hb : w.heap[b]? = some (.cells ⟨cs⟩ e fr)) (hs : RVs P S w rs vs) (hx : look S t = some (.pointer (some ⟨b, off, none⟩)) := by kernel_rfl) (hp : shapeT P ty = some (g, k) := by kernel_rfl) (hv : loadV g k cs off = some v := by kernel_rfl) : RVs P S w (.cell t ty :: rs) (v :: vs) := RVs_cons (RV_cell hb hx hp hv) hs
theorem LX (k : Nat) (p : Option Addr) (c : Nat) (xs : List α) (i : Nat) (x : α) (h : W P ops n Q ((k, .slice p (xs.set i x).length c) :: S) w l) (hk : look S k = some (.slice p xs.length c) := by kernel_rfl) : W P ops n Q S w l := W_conv k _ _ hk (by rw [List.length_set]) h
theorem LY (k : Nat) (p : Option Addr) (c : Nat) {α β : Type} {xs : List α} {ys : List β} (he : ys.length = xs.length) (h : W P ops n Q ((k, .slice p ys.length c) :: S) w l) (hk : look S k = some (.slice p xs.length c) := by kernel_rfl) : W P ops n Q S w l := W_conv k _ _ hk (by rw [he]) h
theorem ownI.r {l : List Inn} (h : ownI l seg) (hM : Mem F w0 w Ls) (pl : Nat) (hi : Ls.getD pl [] = seg := by kernel_rfl) : rdI w l := h.rd hM pl hi
theorem ownS.r (h : ownS E xs p c seg) (hM : Mem F w0 w Ls) (pl : Nat) (hi : Ls.getD pl [] = seg := by kernel_rfl) : rdS E w xs p c := h.rd hM pl hi
end
end Go.Gx
set_option linter.unusedVariables false
namespace Go.Gx
section
variable {α : Type} {E : Enc α} {F : List Nat} {w0 w w' : World} {Ls : List Seg} {xs ys : List α} {p q : Option Addr} {c : Nat} {seg : Seg}
variable {P : Program} {ops : Array Oper} {n : Nat} {Q : Exit → Act → World → Prop} {S S' : Store} {l rest : List Oper} {o : Oper} {C : World → Prop} {K : Act → Prop}
abbrev SL {β : Type} (p : Option Addr) (xs : List β) (c : Nat) : Value := .slice p xs.length c
abbrev SN : Value := .slice none 0 0
theorem NM {J : Act → World → Prop} (h : ∀ a, Sat n S a → J a w) : N n (Meet J Q) .normal S w := h
abbrev CE (e : TypeId) (cs : List Value) : Obj := .cells ⟨cs⟩ e (0, 0)
abbrev BK (b : Nat) (e : TypeId) (cs : List Value) : Seg := [(b, .cells ⟨cs⟩ e (0, 0))]
theorem GD {p : Prop} {β γ : Type} {x : Option β} {f : β → Option γ} {r : γ} (h : Option.bind x f = some r) (k : ∀ a, x = some a → f a = some r → p) : p := by
  obtain ⟨a, h1, h2⟩ := gx_bind h
  exact k a h1 h2
theorem GT {cd : Operand} {b : Bool} {y z : Code} {β : Type} {X Y : Option β} {r : β} (hm : (bif b then X else Y) = some r) (ht : b = true → X = some r → G P n y Q S w) (hf : b = false → Y = some r → G P n z Q S w) (hc : evalO S cd = some (.bool b) := by kernel_rfl) : G P n (.cond cd y z) Q S w :=
  G_cond b hc (fun h => ht h (by rw [h] at hm; exact hm)) (fun h => hf h (by rw [h] at hm; exact hm))
theorem ownD.r2 {D : Deep α} {s0 s1 : Seg} (h : ownD D xs p c s0 s1) (hM : Mem F w0 w Ls) (i j : Nat) (hi : Ls.getD i [] = s0 := by kernel_rfl) (hj : Ls.getD j [] = s1 := by kernel_rfl) : rdD D w xs p c := h.rd hM i hi j hj
theorem rdI.a_ {zs : List (α × Pl)} {f : α × Pl → List Inn} (h : rdI w (zs.flatMap f)) {i : Int} {z : α × Pl} (hz : gxIdx zs i = some z) (k : Nat) {β : Type} {E : Enc β} {xs : List β} {p : Option Addr} {c : Nat} (hk : (f z)[k]? = some ⟨β, E, xs, p, c⟩ := by kernel_rfl) : rdS E w xs p c := h.at_ hz k ⟨β, E, xs, p, c⟩ hk
abbrev QV (x : Value) : (Nat → Value) → Value → Seg → Prop := fun f v s => v = x ∧ s = []
abbrev BL (L : List ((Nat → Value) → Value → Seg → Prop)) : Nat → (Nat → Value) → Value → Seg → Prop := fun i => L.getD i (fun _ _ _ => False)
def EM : Nat → List (List Nat)
  | 0 => []
  | n + 1 => [] :: EM n
theorem GU (S' : Store) {y : Code} (k : G P n y Q S' w) (hs : sub S' S = some S' := by kernel_rfl) : G P n y Q S w := G_sub S' hs k
theorem AC {pr : Nat → Oper → Prop} {i : Nat} {r : List Oper} (h : pr i o) (hs : allOb pr (i + 1) r) : allOb pr i (o :: r) := ⟨h, hs⟩
theorem AN {pr : Nat → Oper → Prop} {i : Nat} : allOb pr i [] := trivial
theorem DL {id : Nat} (m : Nat) (E J N X Y Z : List (List Nat)) (pre : Nat → Seg) (L : List ((Nat → Value) → Value → Seg → Prop)) (OX O O' : List Nat) (hM : Mem F w0 w (Ls ++ (List.range m).map pre))
    (ob : allOb (ObOf P n l S F w0 Ls E J N X Y Z pre (BL L) (fun j f v => ∃ s, BL L j f v s)) 0 (l.take m))
    (fin : ∀ (g : Nat → Seg) (f : Nat → Value), obX l (fun j f v => ∃ s, BL L j f v s) Y OX f S fun f1 S1 => obE l (BL L) Y g O f1 S1 fun f2 S' => ∀ w, Mem F w0 w (Ls ++ O'.map g) → W P l.toArray n Q S' w (l.drop m))
    (hmix : P.follows .mixedOrders = true := by kernel_rfl) (hok : dagOk l m S E J N X Y Z = true := by kernel_rfl)
    (hOX : OX.all (fun j => Nat.blt j m) = true := by kernel_rfl) (hO : O.all (fun j => Nat.blt j m && freeOf J m j) = true := by kernel_rfl) (hO' : O'.all (fun j => Nat.blt j m && freeOf J m j) = true := by kernel_rfl) (hOd : distinct O' = true := by kernel_rfl) : G P n (.region id l.toArray true) Q S w :=
  G_dagL m E J N X Y Z pre (BL L) (fun j f v => ∃ s, BL L j f v s) OX O O' (fun _ _ _ s h => ⟨s, h⟩) hmix hok hM hOX hO hO' hOd ob fin
theorem OV {B1 : Value → Seg → Prop} {R : List Seg} {v : Value} {d : Nat} (hb : B1 v []) (hr : (execOp (rho S) o).run P w = .ok (.value v) w) (hM : Mem F w0 w (Ls ++ ([[]] ++ R))) (hd : o.dst = some d := by rfl) (hok : okAll ops n S o = true := by kernel_rfl) :
    W P ops n (Q1 fun a' w' => a'.defers = [] ∧ ∃ v s, (∀ d, o.dst = some d → a'.tmps[d]? = some v) ∧ B1 v s ∧ Mem F w0 w' (Ls ++ ([s] ++ R))) S w [o] := by
  refine W_val v w hok hr (W_nil (ob_end v [] hd ?_ hb hM))
  rw [hd]
  simp [putS, look]
theorem OM {B1 : Value → Seg → Prop} {R : List Seg} {v : Value} (hb : B1 v []) (hM : Mem F w0 w (Ls ++ ([[]] ++ R))) (hok : okAll ops n S o = true := by kernel_rfl) (hd : (o.dst).isSome = true := by kernel_rfl) (hr : (execOp (rho S) o).run P w = .ok (.value v) w := by kernel_rfl) :
    W P ops n (Q1 fun a' w' => a'.defers = [] ∧ ∃ v s, (∀ d, o.dst = some d → a'.tmps[d]? = some v) ∧ B1 v s ∧ Mem F w0 w' (Ls ++ ([s] ++ R))) S w [o] := by
  obtain ⟨d, hd⟩ := Option.isSome_iff_exists.1 hd
  refine W_val v w hok hr (W_nil (ob_end v [] hd ?_ hb hM))
  rw [hd]
  simp [putS, look]
end
end Go.Gx
set_option linter.unusedVariables false
set_option linter.unusedSimpArgs false
set_option maxRecDepth 100000
set_option maxHeartbeats 4000000
namespace Go.Proofs.YtllhajkgkghhdaaGreat
open Go.Gx
theorem c_s_l1In (w : World) (b : Int) (d : Int) (c : Int) {r : Bool} (hm : M.s_l1In b d c = some r) :
  Calls Tryz.prog 124 #[iv b, iv d, iv c] w fun e w' => e = .returned (.bool r) ∧ Mem [] w w' [] := by
 unfold M.s_l1In at hm
 refine cE Tryz.func124 ?_
 have M0 := Mem.refl [] w
 refine QA (MW 1 (NE (GD hm fun g k j => G_meet (fun a w' => Mem [] w w' [] ∧ Sat Tryz.f124.ntmps [(6, .bool g)] a) ?_ ?_)))
 ·have hm := k
  refine GR (wR 4 [(0, iv b), (2, iv c), (10, .bool (decide (b ≥ d)))] w ?_)
  rcases gx_bif hm with ⟨f, hm⟩ | ⟨f, hm⟩
  ·refine wK 10 true f (MW 5 (WN ?_))
   obtain rfl := HS hm
   exact NM fun a ha => ⟨M0.pk [], ha.s⟩
  refine wK 10 false f (MW 5 (WN ?_))
  obtain rfl := HS hm
  exact NM fun a ha => ⟨M0.pk [], ha.s⟩
 intro l m ⟨h, i⟩
 refine N_use i ?_
 have hm := j
 refine TN (G_ret ?_)
 obtain rfl := HS hm
 exact RA [.bool g] (⟨rfl, h.pk []⟩)
theorem c_s_l6Prio (w : World) (a : Int) {r : Bool} (hm : M.s_l6Prio a = some r) :
  Calls Tryz.prog 150 #[iv a] w fun e w' => e = .returned (.bool r) ∧ Mem [] w w' [] := by
 unfold M.s_l6Prio at hm
 refine cE Tryz.func150 ?_
 have M0 := Mem.refl [] w
 refine QA (MW 1 (NA (MW 1 (GD hm fun b f hm => WD (c_s_l1In w a 0 15 f) M0 fun g d => MW 1 (NC ?_)))))
 obtain rfl := HS hm
 exact RA [.bool b] (⟨rfl, d.pk []⟩)
theorem c_s_l21Routes (w : World) (d : List Route) (b g) (i : rdS encRoute w d b g) (f : Int) {r : Bool} (hm : M.s_l21Routes d f = some r) :
  Calls Tryz.prog 99 #[SL b d g, iv f] w fun e w' => e = .returned (.bool r) ∧ Mem [] w w' [] := by
 unfold M.s_l21Routes at hm
 refine cE Tryz.func99 ?_
 have M0 := Mem.refl [] w
 refine QA (MW 1 (NB (MW 1 (NO (GD hm fun ab Z B => G_meet (fun a w' => ∃ (D : Unit), ab = .inl D ∧ Mem [] w w' [] ∧ Sat Tryz.f99.ntmps [(0, SL b d g), (1, iv f)] a) ?_ ?_)))))
 ·refine GB (G_while (σ := Int) (ρ := (Unit) ⊕ (Bool)) (fun c a w' => Mem [] w w' [] ∧ Sat Tryz.f99.ntmps [(0, SL b d g), (1, iv f), (5, iv c)] a) Z (fun a ha => ⟨M0.pk [], ha.s⟩) ?_)
  clear hm
  intro c al hm C ag j ⟨k, O⟩
  refine G_use O (QB (MW 4 (NO (GT hm (fun n hm => ?_) fun n hm => ?_))))
  ·refine GK (TN (GS (GB (GS (GD hm fun aa U S => G_meet (fun a w' => Mem [] w w' [] ∧ Sat Tryz.f99.ntmps [(0, SL b d g), (1, iv f), (5, iv c), (29, .bool aa)] a) ?_ ?_)))))
   ·have hm := U
    refine GR (MW 2 (GD hm fun y u hm => wV (elemP b (c.toNat * 2)) j (eI (i.mem0 k) rfl u) (wV (elemP b (c.toNat * 2 + 0)) j (eF 0 (c.toNat * 2) 0 (i.mem0 k) u) (wV (iv y.Priority) j (eE false 1 0 (c.toNat * 2 + 0) (i.mem0 k) u) (GD hm fun ac W hm => WD (c_s_l6Prio j y.Priority W) k fun h l => wR 2 [(0, SL b d g), (1, iv f), (5, iv c), (19, .bool (!ac))] h ?_)))))
    rcases gx_bif hm with ⟨o, hm⟩ | ⟨o, hm⟩
    ·refine wK 19 true o (MW 10 (WN ?_))
     obtain rfl := HS hm
     exact NM fun a ha => ⟨l.pk [], ha.s⟩
    refine wK 19 false o (MW 2 (GD hm fun m v hm => wV (elemP b (c.toNat * 2)) h (eI (i.mem0 l) rfl v) (wV (elemP b (c.toNat * 2 + 1)) h (eF 1 (c.toNat * 2) 1 (i.mem0 l) v) (wV (iv m.Target) h (eE false 1 1 (c.toNat * 2 + 1) (i.mem0 l) v) (MW 2 (GD hm fun ad X hm => WD (c_s_l1In h m.Target 0 (w64 (f - 1)) X) l fun af K => wR 2 [(0, SL b d g), (1, iv f), (5, iv c), (29, .bool (!ad))] af (WN ?_)))))))
    obtain rfl := HS hm
    exact NM fun a ha => ⟨K.pk [], ha.s⟩
   intro ah F ⟨z, P⟩
   refine N_use P ?_
   have hm := S
   refine TN (GT hm (fun q hm => ?_) fun q hm => ?_)
   ·refine QA (MW 1 (NX ?_))
    obtain rfl := HS hm
    obtain rfl := C _ rfl
    have hm := B; simp only [Sum.elim_inr] at hm
    refine BR (N_meet_ret (TR ?_))
    obtain rfl := HS hm
    exact RA [.bool false] (⟨rfl, z.pk []⟩)
   refine KC (MW 3 (WN ?_))
   cases hm
   exact N_loop fun a ha => ⟨_, rfl, z.pk [], ha.s⟩
  refine XA ?_
  obtain rfl := HS hm
  obtain rfl := C _ rfl
  exact NM fun a ha => ⟨_, rfl, k.pk [], ha.s⟩
 intro ai G ⟨D, hout_, L, Q⟩
 refine N_use Q ?_
 subst hout_
 have hm := B; simp only [Sum.elim_inl] at hm
 refine TN (GS (GD hm fun E V T => G_meet (fun a w' => Mem [] w w' [] ∧ Sat Tryz.f99.ntmps [(4, .bool E)] a) ?_ ?_))
 ·have hm := V
  refine GR (MW 1 (GD hm fun ae Y hm => WD (c_s_l1In G f 1 2 Y) L fun x A => wR 1 [(0, SL b d g), (32, .bool ae)] x ?_))
  rcases gx_bif hm with ⟨t, hm⟩ | ⟨t, hm⟩
  ·refine wK 32 true t (MW 5 (WN ?_))
   obtain rfl := HS hm
   exact NM fun a ha => ⟨A.pk [], ha.s⟩
  refine wK 32 false t (MW 5 (WN ?_))
  obtain rfl := HS hm
  exact NM fun a ha => ⟨A.pk [], ha.s⟩
 intro aj ak ⟨N, R⟩
 refine N_use R ?_
 have hm := T
 refine TN (G_ret ?_)
 obtain rfl := HS hm
 exact RA [.bool E] (⟨rfl, N.pk []⟩)
theorem c_s_l6Irq (w : World) (a : Int) {r : Bool} (hm : M.s_l6Irq a = some r) :
  Calls Tryz.prog 143 #[iv a] w fun e w' => e = .returned (.bool r) ∧ Mem [] w w' [] := by
 unfold M.s_l6Irq at hm
 refine cE Tryz.func143 ?_
 have M0 := Mem.refl [] w
 refine QA (MW 1 (NA (MW 1 (GD hm fun b f hm => WD (c_s_l1In w a 0 7 f) M0 fun g d => MW 1 (NC ?_)))))
 obtain rfl := HS hm
 exact RA [.bool b] (⟨rfl, d.pk []⟩)
theorem c_s_l8Find (w : World) (d : List Slot) (c f) (j : rdS encSlot w d c f) (g : Int) {r : Int} (hm : M.s_l8Find d g = some r) :
  Calls Tryz.prog 192 #[SL c d f, iv g] w fun e w' => e = .returned (iv r) ∧ Mem [] w w' [] := by
 unfold M.s_l8Find at hm
 refine cE Tryz.func192 ?_
 have M0 := Mem.refl [] w
 refine QA (MW 1 (NB (MW 1 (NO (GD hm fun I G t => G_meet (fun a w' => ∃ (v : Unit), I = .inl v ∧ Mem [] w w' [] ∧ Sat Tryz.f192.ntmps [] a) ?_ ?_)))))
 ·refine GB (G_while (σ := Int) (ρ := (Unit) ⊕ (Int)) (fun b a w' => Mem [] w w' [] ∧ Sat Tryz.f192.ntmps [(0, SL c d f), (1, iv g), (5, iv b)] a) G (fun a ha => ⟨M0.pk [], ha.s⟩) ?_)
  clear hm
  intro b O hm u K h ⟨i, B⟩
  refine G_use B (QB (MW 4 (NO (GT hm (fun k hm => ?_) fun k hm => ?_))))
  ·refine GK (TN (GS (GB (GS (GD hm fun H F E => G_meet (fun a w' => Mem [] w w' [] ∧ Sat Tryz.f192.ntmps [(0, SL c d f), (1, iv g), (5, iv b), (26, .bool H)] a) ?_ ?_)))))
   ·have hm := F
    refine GR (MW 2 (GD hm fun y n hm => wV (elemP c (b.toNat * 3)) h (eI (j.mem0 i) rfl n) (wV (elemP c (b.toNat * 3 + 0)) h (eF 0 (b.toNat * 3) 0 (j.mem0 i) n) (wV (iv y.State) h (eE false 1 0 (b.toNat * 3 + 0) (j.mem0 i) n) (wR 2 [(0, SL c d f), (1, iv g), (5, iv b), (18, .bool (y.State != 0))] h ?_)))))
    rcases gx_bif hm with ⟨l, hm⟩ | ⟨l, hm⟩
    ·refine wK 18 true l (MW 2 (GD hm fun z o hm => wV (elemP c (b.toNat * 3)) h (eI (j.mem0 i) rfl o) (wV (elemP c (b.toNat * 3 + 1)) h (eF 1 (b.toNat * 3) 1 (j.mem0 i) o) (wV (iv z.Irq) h (eE false 1 1 (b.toNat * 3 + 1) (j.mem0 i) o) (MW 3 (WN ?_))))))
     obtain rfl := HS hm
     exact NM fun a ha => ⟨i.pk [], ha.s⟩
    refine wK 18 false l (MW 8 (WN ?_))
    obtain rfl := HS hm
    exact NM fun a ha => ⟨i.pk [], ha.s⟩
   intro L x ⟨q, C⟩
   refine N_use C ?_
   have hm := E
   refine TN (GT hm (fun m hm => ?_) fun m hm => ?_)
   ·refine QA (MW 2 (NX ?_))
    obtain rfl := HS hm
    obtain rfl := u _ rfl
    have hm := t; simp only [Sum.elim_inr] at hm
    refine BR (N_meet_ret (TR ?_))
    obtain rfl := HS hm
    exact RA [iv b] (⟨rfl, q.pk []⟩)
   refine KC (wR 3 [(0, SL c d f), (1, iv g), (5, iv (w64 (b + 1)))] x (WN ?_))
   cases hm
   exact N_loop fun a ha => ⟨_, rfl, q.pk [], ha.s⟩
  refine XA ?_
  obtain rfl := HS hm
  obtain rfl := u _ rfl
  exact NM fun a ha => ⟨_, rfl, i.pk [], ha.s⟩
 intro N J ⟨v, hout_, A, D⟩
 refine N_use D ?_
 subst hout_
 have hm := t; simp only [Sum.elim_inl] at hm
 refine NF (MW 1 (NC ?_))
 cases hm
 exact RA [iv (-1)] (⟨rfl, A.pk []⟩)
theorem c_s_l8Less (w : World) (b : Int) (c : Int) (d : Int) (f : Int) {r : Bool} (hm : M.s_l8Less b c d f = some r) :
  Calls Tryz.prog 171 #[iv b, iv c, iv d, iv f] w fun e w' => e = .returned (.bool r) ∧ Mem [] w w' [] := by
 unfold M.s_l8Less at hm
 refine cE Tryz.func171 ?_
 have M0 := Mem.refl [] w
 refine QA (MW 1 (NE (GD hm fun i m l => G_meet (fun a w' => Mem [] w w' [] ∧ Sat Tryz.f171.ntmps [(8, .bool i)] a) ?_ ?_)))
 ·have hm := m
  refine GR (wR 4 [(0, iv b), (1, iv c), (2, iv d), (3, iv f), (12, .bool (decide (b < d)))] w ?_)
  rcases gx_bif hm with ⟨g, hm⟩ | ⟨g, hm⟩
  ·refine wK 12 true g (MW 10 (WN ?_))
   obtain rfl := HS hm
   exact NM fun a ha => ⟨M0.pk [], ha.s⟩
  refine wK 12 false g (wR 4 [(1, iv c), (3, iv f), (12, .bool false), (16, .bool (b == d))] w ?_)
  rcases gx_bif hm with ⟨h, hm⟩ | ⟨h, hm⟩
  ·refine wK 16 true h (MW 6 (WN ?_))
   obtain rfl := HS hm
   exact NM fun a ha => ⟨M0.pk [], ha.s⟩
  refine wK 16 false h (MW 6 (WN ?_))
  obtain rfl := HS hm
  exact NM fun a ha => ⟨M0.pk [], ha.s⟩
 intro n o ⟨j, k⟩
 refine N_use k ?_
 have hm := l
 refine TN (G_ret ?_)
 obtain rfl := HS hm
 exact RA [.bool i] (⟨rfl, j.pk []⟩)
theorem c_s_l8Good (w : World) (b : List Slot) (c d) (n : rdS encSlot w b c d) {r : Bool} (hm : M.s_l8Good b = some r) :
  Calls Tryz.prog 234 #[SL c b d] w fun e w' => e = .returned (.bool r) ∧ Mem [] w w' [] := by
 unfold M.s_l8Good at hm
 refine cE Tryz.func234 ?_
 have M0 := Mem.refl [] w
 refine QA (MW 1 (NB (MW 1 (NO (GD hm fun ao al F => G_meet (fun a w' => ∃ (L : Unit), ao = .inl L ∧ Mem [] w w' [] ∧ Sat Tryz.f234.ntmps [(0, SL c b d)] a) ?_ ?_)))))
 ·refine GB (G_while (σ := Int) (ρ := (Unit) ⊕ (Bool)) (fun f a w' => Mem [] w w' [] ∧ Sat Tryz.f234.ntmps [(0, SL c b d), (3, iv f)] a) al (fun a ha => ⟨M0.pk [], ha.s⟩) ?_)
  clear hm
  intro f a7 hm G a0 o ⟨m, Y⟩
  refine G_use Y (QB (MW 4 (NO (GT hm (fun u hm => ?_) fun u hm => ?_))))
  ·refine KD (MW 2 (GD hm fun g K hm => wV (elemP c (f.toNat * 3)) o (eI (n.mem0 m) rfl K) (wV (.agg #[iv g.State, iv g.Irq, iv g.Priority]) o (eE true 3 0 (f.toNat * 3) (n.mem0 m) K) (wN (CE 117 [iv 0, iv 0, iv 0]) m fun h a6 T => wS true 3 0 (.agg #[iv g.State, iv g.Irq, iv g.Priority]) 0 [iv g.State, iv g.Irq, iv g.Priority] T rfl fun H I => NE (GS (GD hm fun am ae ac => G_meet (fun a w' => Mem [] w w' [(BK h 117 [iv g.State, iv g.Irq, iv g.Priority])] ∧ Sat Tryz.f234.ntmps [(0, SL c b d), (3, iv f), (4, pB h 0), (30, .bool am)] a) ?_ ?_))))))
   ·have hm := ae
    refine GR (MW 1 (wV (iv g.State) H (eL false 1 0 (I.blk 0 rfl)) (GD hm fun ap ag hm => WD (c_s_l1In H g.State 0 3 ag) I fun k q => wR 2 [(0, SL c b d), (3, iv f), (4, pB h 0), (19, .bool (!ap))] k ?_)))
    rcases gx_bif hm with ⟨v, hm⟩ | ⟨v, hm⟩
    ·refine wK 19 true v (MW 11 (WN ?_))
     obtain rfl := HS hm
     exact NM fun a ha => ⟨q.pk [0], ha.s⟩
    refine wK 19 false v (MW 1 (wV (iv g.Irq) k (eL false 1 1 (q.blk 0 rfl)) (GD hm fun aq ah hm => WD (c_s_l6Irq k g.Irq ah) q fun l t => wR 3 [(0, SL c b d), (3, iv f), (4, pB h 0), (25, .bool (!aq))] l ?_)))
    rcases gx_bif hm with ⟨x, hm⟩ | ⟨x, hm⟩
    ·refine wK 25 true x (MW 5 (WN ?_))
     obtain rfl := HS hm
     exact NM fun a ha => ⟨t.pk [0], ha.s⟩
    refine wK 25 false x (MW 1 (wV (iv g.Priority) l (eL false 1 2 (t.blk 0 rfl)) (GD hm fun ar ai hm => WD (c_s_l6Prio l g.Priority ai) t fun aw U => MW 2 (WN ?_))))
    obtain rfl := HS hm
    exact NM fun a ha => ⟨U.pk [0], ha.s⟩
   intro a3 i ⟨j, Z⟩
   refine N_use Z ?_
   have hm := ac
   refine TN (GT hm (fun y hm => ?_) fun y hm => ?_)
   ·refine QA (MW 1 (ND (BR (TR (TR ?_)))))
    obtain rfl := HS hm
    obtain rfl := G _ rfl
    have hm := F; simp only [Sum.elim_inr] at hm
    refine BR (N_meet_ret (TR ?_))
    obtain rfl := HS hm
    exact RA [.bool false] (⟨rfl, j.pk []⟩)
   refine GK (TN (GS (GD hm fun an af ad => G_meet (fun a w' => Mem [] w w' [] ∧ Sat Tryz.f234.ntmps [(0, SL c b d), (3, iv f), (56, .bool an)] a) ?_ ?_)))
   ·have hm := af
    refine GR (MW 1 (wV (iv g.State) i (eL false 1 0 (j.blk 0 rfl)) (wR 2 [(0, SL c b d), (3, iv f), (4, pB h 0), (34, .bool (g.State == 0))] i ?_)))
    rcases gx_bif hm with ⟨z, hm⟩ | ⟨z, hm⟩
    ·refine wK 34 true z (MW 1 (wV (iv g.Irq) i (eL false 1 1 (j.blk 0 rfl)) (wR 2 [(0, SL c b d), (3, iv f), (4, pB h 0), (34, .bool true), (38, .bool (g.Irq != 0))] i ?_)))
     rcases gx_bif hm with ⟨A, hm⟩ | ⟨A, hm⟩
     ·refine wK 38 true A (wR 18 [(0, SL c b d), (3, iv f), (56, .bool true)] i (WN ?_))
      obtain rfl := HS hm
      exact NM fun a ha => ⟨j.pk [], ha.s⟩
     refine wK 38 false A (MW 1 (wV (iv g.Priority) i (eL false 1 2 (j.blk 0 rfl)) (wR 4 [(0, SL c b d), (3, iv f), (4, pB h 0), (44, .bool (g.Priority != 0))] i ?_)))
     rcases gx_bif hm with ⟨B, hm⟩ | ⟨B, hm⟩
     ·refine wK 44 true B (MW 12 (WN ?_))
      obtain rfl := HS hm
      exact NM fun a ha => ⟨j.pk [], ha.s⟩
     refine wK 44 false B (MW 1 (wV (iv g.State) i (eL false 1 0 (j.blk 0 rfl)) (wR 2 [(0, SL c b d), (3, iv f), (4, pB h 0), (44, .bool false), (48, .bool (g.State != 0))] i ?_)))
     rcases gx_bif hm with ⟨C, hm⟩ | ⟨C, hm⟩
     ·refine wK 48 true C (MW 2 (wV (iv g.Irq) i (eL false 1 1 (j.blk 0 rfl)) (GD hm fun au aj hm => WD (c_s_l8Find i b c d (n.mem0 j) g.Irq aj) j fun ax V => MW 4 (WN ?_))))
      obtain rfl := HS hm
      exact NM fun a ha => ⟨V.pk [], ha.s⟩
     refine wK 48 false C (MW 8 (WN ?_))
     obtain rfl := HS hm
     exact NM fun a ha => ⟨j.pk [], ha.s⟩
    refine wK 34 false z (MW 11 (wV (iv g.State) i (eL false 1 0 (j.blk 0 rfl)) (wR 2 [(0, SL c b d), (3, iv f), (4, pB h 0), (44, .bool false), (48, .bool (g.State != 0))] i ?_)))
    rcases gx_bif hm with ⟨D, hm⟩ | ⟨D, hm⟩
    ·refine wK 48 true D (MW 2 (wV (iv g.Irq) i (eL false 1 1 (j.blk 0 rfl)) (GD hm fun av ak hm => WD (c_s_l8Find i b c d (n.mem0 j) g.Irq ak) j fun ay W => MW 4 (WN ?_))))
     obtain rfl := HS hm
     exact NM fun a ha => ⟨W.pk [], ha.s⟩
    refine wK 48 false D (MW 8 (WN ?_))
    obtain rfl := HS hm
    exact NM fun a ha => ⟨j.pk [], ha.s⟩
   intro a4 N ⟨J, aa⟩
   refine N_use aa ?_
   have hm := ad
   refine TN (GT hm (fun E hm => ?_) fun E hm => ?_)
   ·refine QA (MW 1 (NX ?_))
    obtain rfl := HS hm
    obtain rfl := G _ rfl
    have hm := F; simp only [Sum.elim_inr] at hm
    refine BR (N_meet_ret (TR ?_))
    obtain rfl := HS hm
    exact RA [.bool false] (⟨rfl, J.pk []⟩)
   refine KC (wR 3 [(0, SL c b d), (3, iv (w64 (f + 1)))] N (WN ?_))
   cases hm
   exact N_loop fun a ha => ⟨_, rfl, J.pk [], ha.s⟩
  refine XA ?_
  obtain rfl := HS hm
  obtain rfl := G _ rfl
  exact NM fun a ha => ⟨_, rfl, m.pk [], ha.s⟩
 intro a5 az ⟨L, hout_, X, ab⟩
 refine N_use ab ?_
 subst hout_
 have hm := F; simp only [Sum.elim_inl] at hm
 refine NF (MW 4 (NC ?_))
 cases hm
 exact RA [.bool ((b.length : Int) == 4)] (⟨rfl, X.pk []⟩)
theorem c_s_l9Waiting (w : World) (g : List Slot) (i h) (ac : rdS encSlot w g i h) (d : List Waiter) (c f) (m : rdS encWaiter w d c f) {r : Bool} (hm : M.s_l9Waiting g d = some r) :
  Calls Tryz.prog 189 #[SL i g h, SL c d f] w fun e w' => e = .returned (.bool r) ∧ Mem [] w w' [] := by
 unfold M.s_l9Waiting at hm
 refine cE Tryz.func189 ?_
 have M0 := Mem.refl [] w
 refine QA (MW 1 (NB (MW 1 (NO (GD hm fun bq bl x => G_meet (fun a w' => ∃ (ag : Unit), bq = .inl ag ∧ Mem [] w w' [] ∧ Sat Tryz.f189.ntmps [(0, SL i g h), (1, SL c d f)] a) ?_ ?_)))))
 ·refine GB (G_while (σ := Int) (ρ := (Unit) ⊕ (Bool)) (fun b a w' => Mem [] w w' [] ∧ Sat Tryz.f189.ntmps [(0, SL i g h), (1, SL c d f), (5, iv b)] a) bl (fun a ha => ⟨M0.pk [], ha.s⟩) ?_)
  clear hm
  intro b cd hm y b1 Q ⟨U, ay⟩
  refine G_use ay (GS (GS (GD hm fun bn bc a8 => G_meet (fun a w' => Mem [] w w' [] ∧ Sat Tryz.f189.ntmps [(0, SL i g h), (1, SL c d f), (5, iv b), (15, .bool bn)] a) ?_ ?_)))
  ·have hm := bc
   refine GR (wR 5 [(0, SL i g h), (1, SL c d f), (5, iv b), (12, .bool (decide (b < (d.length : Int))))] Q ?_)
   rcases gx_bif hm with ⟨C, hm⟩ | ⟨C, hm⟩
   ·refine wK 12 true C (MW 3 (WN ?_))
    obtain rfl := HS hm
    exact NM fun a ha => ⟨U.pk [], ha.s⟩
   refine wK 12 false C (MW 3 (WN ?_))
   obtain rfl := HS hm
   exact NM fun a ha => ⟨U.pk [], ha.s⟩
  intro b2 R ⟨u, az⟩
  refine N_use az ?_
  have hm := a8
  refine TN (GT hm (fun D hm => ?_) fun D hm => ?_)
  ·refine KD (MW 2 (GD hm fun k af hm => wV (elemP c (b.toNat * 2)) R (eI (m.mem0 u) rfl af) (wV (.agg #[iv k.Irq, iv k.Priority]) R (eE true 2 0 (b.toNat * 2) (m.mem0 u) af) (wN (CE 142 [iv 0, iv 0]) u fun j b9 aq => wS true 2 0 (.agg #[iv k.Irq, iv k.Priority]) 0 [iv k.Irq, iv k.Priority] aq rfl fun S V => NE (GS (GD hm fun bo bd a9 => G_meet (fun a w' => Mem [] w w' [(BK j 142 [iv k.Irq, iv k.Priority])] ∧ Sat Tryz.f189.ntmps [(0, SL i g h), (1, SL c d f), (5, iv b), (6, pB j 0), (38, .bool bo)] a) ?_ ?_))))))
   ·have hm := bd
    refine GR (MW 1 (wV (iv k.Irq) S (eL false 1 0 (V.blk 0 rfl)) (GD hm fun bs bg hm => WD (c_s_l6Irq S k.Irq bg) V fun o B => wR 2 [(0, SL i g h), (1, SL c d f), (5, iv b), (6, pB j 0), (26, .bool (!bs))] o ?_)))
    rcases gx_bif hm with ⟨E, hm⟩ | ⟨E, hm⟩
    ·refine wK 26 true E (MW 12 (WN ?_))
     obtain rfl := HS hm
     exact NM fun a ha => ⟨B.pk [0], ha.s⟩
    refine wK 26 false E (MW 1 (wV (iv k.Priority) o (eL false 1 1 (B.blk 0 rfl)) (GD hm fun bt bh hm => WD (c_s_l6Prio o k.Priority bh) B fun q v => wR 3 [(0, SL i g h), (1, SL c d f), (5, iv b), (6, pB j 0), (32, .bool (!bt))] q ?_)))
    rcases gx_bif hm with ⟨F, hm⟩ | ⟨F, hm⟩
    ·refine wK 32 true F (MW 6 (WN ?_))
     obtain rfl := HS hm
     exact NM fun a ha => ⟨v.pk [0], ha.s⟩
    refine wK 32 false F (MW 2 (wV (iv k.Irq) q (eL false 1 0 (v.blk 0 rfl)) (GD hm fun bu bi hm => WD (c_s_l8Find q g i h (ac.mem0 v) k.Irq bi) v fun bw ar => MW 2 (WN ?_))))
    obtain rfl := HS hm
    exact NM fun a ha => ⟨ar.pk [0], ha.s⟩
   intro b3 bx ⟨W, a0⟩
   refine N_use a0 ?_
   have hm := a9
   refine TN (GT hm (fun G hm => ?_) fun G hm => ?_)
   ·refine QA (MW 1 (ND (BR (TR (TR ?_)))))
    obtain rfl := HS hm
    obtain rfl := y _ rfl
    have hm := x; simp only [Sum.elim_inr] at hm
    refine BR (N_meet_ret (TR ?_))
    obtain rfl := HS hm
    exact RA [.bool false] (⟨rfl, W.pk []⟩)
   refine GK (TN (GS (GS (GD hm fun bp be ba => G_meet (fun a w' => Mem [] w w' [(BK j 142 [iv k.Irq, iv k.Priority])] ∧ Sat Tryz.f189.ntmps [(0, SL i g h), (1, SL c d f), (5, iv b), (6, pB j 0), (60, .bool bp)] a) ?_ ?_))))
   ·have hm := be
    refine G_quiet (by kernel_rfl) (by kernel_rfl) W (MS 3 [(0, SL i g h), (1, SL c d f), (5, iv b), (6, pB j 0), (41, .bool (decide (b > 0)))] ?_)
    rcases gx_bif hm with ⟨H, hm⟩ | ⟨H, hm⟩
    ·refine zK 41 true H (MZ 3 (GD hm fun n N hm => zV (elemP c ((w64 (b - 1)).toNat * 2)) (fun w_ M_ => (eI (m.mem0 M_) rfl N)) (zV (elemP c ((w64 (b - 1)).toNat * 2 + 1)) (fun w_ M_ => (eF 1 ((w64 (b - 1)).toNat * 2) 1 (m.mem0 M_) N)) (zV (iv n.Priority) (fun w_ M_ => (eE false 1 1 ((w64 (b - 1)).toNat * 2 + 1) (m.mem0 M_) N)) (MZ 3 (GD hm fun t O hm => zV (elemP c ((w64 (b - 1)).toNat * 2)) (fun w_ M_ => (eI (m.mem0 M_) rfl O)) (zV (elemP c ((w64 (b - 1)).toNat * 2 + 0)) (fun w_ M_ => (eF 0 ((w64 (b - 1)).toNat * 2) 0 (m.mem0 M_) O)) (zV (iv t.Irq) (fun w_ M_ => (eE false 1 0 ((w64 (b - 1)).toNat * 2 + 0) (m.mem0 M_) O)) (MZ 1 (zV (iv k.Priority) (fun w_ M_ => (eL false 1 1 (M_.blk 0 rfl))) (MZ 1 (zV (iv k.Irq) (fun w_ M_ => (eL false 1 0 (M_.blk 0 rfl))) (GD hm fun z bj hm => ZC (.bool z) (fun w_ M_ => c_s_l8Less w_ n.Priority t.Irq k.Priority k.Irq bj) (MZ 2 (Z_end fun ca au => ?_)))))))))))))))
     obtain rfl := HS hm
     exact NM fun a ha => ⟨au.pk [0], ha.s⟩
    refine zK 41 false H (MS 19 [(0, SL i g h), (1, SL c d f), (5, iv b), (6, pB j 0), (60, .bool false)] (Z_end fun cb av => ?_))
    obtain rfl := HS hm
    exact NM fun a ha => ⟨av.pk [0], ha.s⟩
   intro b4 aj ⟨X, a3⟩
   refine N_use a3 ?_
   have hm := ba
   refine TN (GT hm (fun I hm => ?_) fun I hm => ?_)
   ·refine QA (MW 1 (ND (BR (TR (TR ?_)))))
    obtain rfl := HS hm
    obtain rfl := y _ rfl
    have hm := x; simp only [Sum.elim_inr] at hm
    refine BR (N_meet_ret (TR ?_))
    obtain rfl := HS hm
    exact RA [.bool false] (⟨rfl, X.pk []⟩)
   refine KA (MW 1 (NO (GD hm fun br bm ad => G_meet (fun a w' => ∃ (ah : Unit), br = .inl ah ∧ Mem [] w w' [] ∧ Sat Tryz.f189.ntmps [(0, SL i g h), (1, SL c d f), (5, iv b)] a) ?_ ?_)))
   ·refine GB (G_while (σ := Int) (ρ := (Unit) ⊕ (Bool)) (fun l a w' => Mem [] w w' [(BK j 142 [iv k.Irq, iv k.Priority])] ∧ Sat Tryz.f189.ntmps [(0, SL i g h), (1, SL c d f), (5, iv b), (6, pB j 0), (7, iv l)] a) bm (fun a ha => ⟨X.pk [0], ha.s⟩) ?_)
    clear hm
    intro l ce hm ae b5 bz ⟨Y, a4⟩
    refine G_use a4 (QB (MW 3 (NO (GT hm (fun J hm => ?_) fun J hm => ?_))))
    ·refine GK (TN (GS (GB (GS (G_quiet (by kernel_rfl) (by kernel_rfl) Y (MZ 2 (GD hm fun A P hm => zV (elemP c (l.toNat * 2)) (fun w_ M_ => (eI (m.mem0 M_) rfl P)) (zV (elemP c (l.toNat * 2 + 0)) (fun w_ M_ => (eF 0 (l.toNat * 2) 0 (m.mem0 M_) P)) (zV (iv A.Irq) (fun w_ M_ => (eE false 1 0 (l.toNat * 2 + 0) (m.mem0 M_) P)) (MZ 1 (zV (iv k.Irq) (fun w_ M_ => (eL false 1 0 (M_.blk 0 rfl))) (MZ 1 (Z_end fun ak Z => (TN (GT hm (fun K hm => ?_) fun K hm => ?_)))))))))))))))
     ·refine QA (MW 1 (NX ?_))
      obtain rfl := HS hm
      obtain rfl := ae _ rfl
      have hm := ad; simp only [Sum.elim_inr] at hm
      refine BR (N_meet_ret (BR (TR (TR ?_))))
      obtain rfl := HS hm
      obtain rfl := y _ rfl
      have hm := x; simp only [Sum.elim_inr] at hm
      refine BR (N_meet_ret (TR ?_))
      obtain rfl := HS hm
      exact RA [.bool false] (⟨rfl, Z.pk []⟩)
     refine KC (MW 3 (WN ?_))
     cases hm
     exact N_loop fun a ha => ⟨_, rfl, Z.pk [0], ha.s⟩
    refine XA ?_
    obtain rfl := HS hm
    obtain rfl := ae _ rfl
    exact NM fun a ha => ⟨_, rfl, Y.pk [], ha.s⟩
   intro b6 b0 ⟨ah, hout_, aw, a5⟩
   refine N_use a5 ?_
   subst hout_
   have hm := ad; simp only [Sum.elim_inl] at hm
   refine BN (TN (GR (wR 3 [(0, SL i g h), (1, SL c d f), (5, iv (w64 (b + 1)))] b0 (WN ?_))))
   cases hm
   exact N_loop fun a ha => ⟨_, rfl, aw.pk [], ha.s⟩
  refine XA ?_
  obtain rfl := HS hm
  obtain rfl := y _ rfl
  exact NM fun a ha => ⟨_, rfl, u.pk [], ha.s⟩
 intro b7 al ⟨ag, hout_, aa, a6⟩
 refine N_use a6 ?_
 subst hout_
 have hm := x; simp only [Sum.elim_inl] at hm
 refine TN (GS (GD hm fun ai bf bb => G_meet (fun a w' => Mem [] w w' [] ∧ Sat Tryz.f189.ntmps [(4, .bool ai)] a) ?_ ?_))
 ·have hm := bf
  refine GR (MW 1 (GD hm fun bv bk hm => WD (c_s_l8Good al g i h (ac.mem0 aa) bk) aa fun T ab => wR 1 [(1, SL c d f), (76, .bool bv)] T ?_))
  rcases gx_bif hm with ⟨L, hm⟩ | ⟨L, hm⟩
  ·refine wK 76 true L (MW 5 (WN ?_))
   obtain rfl := HS hm
   exact NM fun a ha => ⟨ab.pk [], ha.s⟩
  refine wK 76 false L (MW 5 (WN ?_))
  obtain rfl := HS hm
  exact NM fun a ha => ⟨ab.pk [], ha.s⟩
 intro b8 cc ⟨ax, a7⟩
 refine N_use a7 ?_
 have hm := bb
 refine TN (G_ret ?_)
 obtain rfl := HS hm
 exact RA [.bool ai] (⟨rfl, ax.pk []⟩)
theorem c_s_l8Free (w : World) (d : List Slot) (c f) (i : rdS encSlot w d c f) {r : Int} (hm : M.s_l8Free d = some r) :
  Calls Tryz.prog 235 #[SL c d f] w fun e w' => e = .returned (iv r) ∧ Mem [] w w' [] := by
 unfold M.s_l8Free at hm
 refine cE Tryz.func235 ?_
 have M0 := Mem.refl [] w
 refine QA (MW 1 (NB (MW 1 (NO (GD hm fun y x m => G_meet (fun a w' => ∃ (o : Unit), y = .inl o ∧ Mem [] w w' [] ∧ Sat Tryz.f235.ntmps [] a) ?_ ?_)))))
 ·refine GB (G_while (σ := Int) (ρ := (Unit) ⊕ (Int)) (fun b a w' => Mem [] w w' [] ∧ Sat Tryz.f235.ntmps [(0, SL c d f), (3, iv b)] a) x (fun a ha => ⟨M0.pk [], ha.s⟩) ?_)
  clear hm
  intro b C hm n A g ⟨h, u⟩
  refine G_use u (QB (MW 4 (NO (GT hm (fun j hm => ?_) fun j hm => ?_))))
  ·refine KD (MW 2 (GD hm fun q l hm => wV (elemP c (b.toNat * 3)) g (eI (i.mem0 h) rfl l) (wV (elemP c (b.toNat * 3 + 0)) g (eF 0 (b.toNat * 3) 0 (i.mem0 h) l) (wV (iv q.State) g (eE false 1 0 (b.toNat * 3 + 0) (i.mem0 h) l) (MW 1 (NO (GT hm (fun k hm => ?_) fun k hm => ?_)))))))
   ·refine QA (MW 2 (NX ?_))
    obtain rfl := HS hm
    obtain rfl := n _ rfl
    have hm := m; simp only [Sum.elim_inr] at hm
    refine BR (N_meet_ret (TR ?_))
    obtain rfl := HS hm
    exact RA [iv b] (⟨rfl, h.pk []⟩)
   refine KC (MW 3 (WN ?_))
   cases hm
   exact N_loop fun a ha => ⟨_, rfl, h.pk [], ha.s⟩
  refine XA ?_
  obtain rfl := HS hm
  obtain rfl := n _ rfl
  exact NM fun a ha => ⟨_, rfl, h.pk [], ha.s⟩
 intro B z ⟨o, hout_, t, v⟩
 refine N_use v ?_
 subst hout_
 have hm := m; simp only [Sum.elim_inl] at hm
 refine NF (MW 1 (NC ?_))
 cases hm
 exact RA [iv (-1)] (⟨rfl, t.pk []⟩)
end Go.Proofs.YtllhajkgkghhdaaGreat
set_option linter.unusedVariables false
set_option linter.unusedSimpArgs false
set_option maxRecDepth 100000
set_option maxHeartbeats 4000000
namespace Go.Proofs.YtllhajkgkghhdaaGreat
open Go.Gx
theorem c_s_l8Best (w : World) (d : List Slot) (c f) (j : rdS encSlot w d c f) (g : Bool) {r : Int} (hm : M.s_l8Best d g = some r) :
  Calls Tryz.prog 236 #[SL c d f, .bool g] w fun e w' => e = .returned (iv r) ∧ Mem [] w w' [] := by
 unfold M.s_l8Best at hm
 refine cE Tryz.func236 ?_
 have M0 := Mem.refl [] w
 refine QA (MW 1 (NA (MW 1 (NB (MW 1 (NO (GD hm fun O aw am => G_meet (fun a w' => Mem [] w w' [] ∧ Sat Tryz.f236.ntmps [(5, iv O)] a) ?_ ?_)))))))
 ·refine GB (G_while (σ := Int × Int) (ρ := Int) (fun b a w' => Mem [] w w' [] ∧ Sat Tryz.f236.ntmps [(0, SL c d f), (1, .bool g), (5, iv b.1), (6, iv b.2)] a) aw (fun a ha => ⟨M0.pk [], ha.s⟩) ?_)
  clear hm
  intro b bh hm aq a4 v ⟨q, ae⟩
  refine G_use ae (QB (MW 4 (NO (GT hm (fun z hm => ?_) fun z hm => ?_))))
  ·refine GK (TN (GS (GD hm fun T an aj => G_meet (fun a w' => Mem [] w w' [] ∧ Sat Tryz.f236.ntmps [(0, SL c d f), (1, .bool g), (5, iv T), (6, iv b.2)] a) ?_ ?_)))
   ·have hm := an
    refine GB (QA (MW 2 (GD hm fun h S hm => wV (elemP c (b.2.toNat * 3)) v (eI (j.mem0 q) rfl S) (wV (.agg #[iv h.State, iv h.Irq, iv h.Priority]) v (eE true 3 0 (b.2.toNat * 3) (j.mem0 q) S) (wN (CE 117 [iv 0, iv 0, iv 0]) q fun i a9 U => wS true 3 0 (.agg #[iv h.State, iv h.Irq, iv h.Priority]) 0 [iv h.State, iv h.Irq, iv h.Priority] U rfl fun P y => NB (MW 1 (wV (iv h.State) P (eL false 1 0 (y.blk 0 rfl)) (MW 1 (NO (GT hm (fun A hm => ?_) fun A hm => ?_))))))))))
    ·refine G_exit (TE (N_block_eq ?_))
     obtain rfl := HS hm
     exact NM fun a ha => ⟨y.pk [], ha.s⟩
    refine GK (TN (GS (GD hm fun ax ao ak => G_meet (fun a w' => Mem [] w w' [] ∧ Sat Tryz.f236.ntmps [(0, SL c d f), (1, .bool g), (5, iv b.1), (6, iv b.2), (63, .bool ax)] a) ?_ ?_)))
    ·have hm := ao
     refine G_quiet (by kernel_rfl) (by kernel_rfl) y (MS 3 [(0, SL c d f), (1, .bool g), (5, iv b.1), (6, iv b.2), (7, pB i 0), (23, .bool (decide (b.1 < 0)))] ?_)
     rcases gx_bif hm with ⟨B, hm⟩ | ⟨B, hm⟩
     ·refine zK 23 true B (MS 40 [(0, SL c d f), (1, .bool g), (5, iv b.1), (6, iv b.2), (63, .bool true)] (Z_end fun ba V => ?_))
      obtain rfl := HS hm
      exact NM fun a ha => ⟨V.pk [], ha.s⟩
     refine zK 23 false B (MS 2 [(0, SL c d f), (1, .bool g), (5, iv b.1), (6, iv b.2), (7, pB i 0), (23, .bool false), (25, .bool g)] ?_)
     rcases gx_bif hm with ⟨C, hm⟩ | ⟨C, hm⟩
     ·refine zK 25 true C (MZ 1 (zV (iv h.Priority) (fun w_ M_ => (eL false 1 2 (M_.blk 0 rfl))) (MZ 1 (zV (iv h.Irq) (fun w_ M_ => (eL false 1 1 (M_.blk 0 rfl))) (MZ 2 (GD hm fun x H hm => zV (elemP c (b.1.toNat * 3)) (fun w_ M_ => (eI (j.mem0 M_) rfl H)) (zV (elemP c (b.1.toNat * 3 + 2)) (fun w_ M_ => (eF 2 (b.1.toNat * 3) 2 (j.mem0 M_) H)) (zV (iv x.Priority) (fun w_ M_ => (eE false 1 2 (b.1.toNat * 3 + 2) (j.mem0 M_) H)) (MZ 2 (GD hm fun Q I hm => zV (elemP c (b.1.toNat * 3)) (fun w_ M_ => (eI (j.mem0 M_) rfl I)) (zV (elemP c (b.1.toNat * 3 + 1)) (fun w_ M_ => (eF 1 (b.1.toNat * 3) 1 (j.mem0 M_) I)) (zV (iv Q.Irq) (fun w_ M_ => (eE false 1 1 (b.1.toNat * 3 + 1) (j.mem0 M_) I)) (GD hm fun m ar hm => ZC (.bool m) (fun w_ M_ => c_s_l8Less w_ h.Priority h.Irq x.Priority Q.Irq ar) (MS 3 [(0, SL c d f), (1, .bool g), (5, iv b.1), (6, iv b.2), (7, pB i 0), (43, .bool m)] ?_))))))))))))))
      rcases gx_bif hm with ⟨D, hm⟩ | ⟨D, hm⟩
      ·refine zK 43 true D (MS 20 [(0, SL c d f), (1, .bool g), (5, iv b.1), (6, iv b.2), (63, .bool true)] (Z_end fun bb W => ?_))
       obtain rfl := HS hm
       exact NM fun a ha => ⟨W.pk [], ha.s⟩
      refine zK 43 false D (MS 3 [(0, SL c d f), (1, .bool g), (5, iv b.1), (6, iv b.2), (7, pB i 0), (43, .bool false), (46, .bool (!g))] ?_)
      rcases gx_bif hm with ⟨E, hm⟩ | ⟨E, hm⟩
      ·refine zK 46 true E (MZ 2 (GD hm fun k J hm => zV (elemP c (b.1.toNat * 3)) (fun w_ M_ => (eI (j.mem0 M_) rfl J)) (zV (elemP c (b.1.toNat * 3 + 2)) (fun w_ M_ => (eF 2 (b.1.toNat * 3) 2 (j.mem0 M_) J)) (zV (iv k.Priority) (fun w_ M_ => (eE false 1 2 (b.1.toNat * 3 + 2) (j.mem0 M_) J)) (MZ 2 (GD hm fun n K hm => zV (elemP c (b.1.toNat * 3)) (fun w_ M_ => (eI (j.mem0 M_) rfl K)) (zV (elemP c (b.1.toNat * 3 + 1)) (fun w_ M_ => (eF 1 (b.1.toNat * 3) 1 (j.mem0 M_) K)) (zV (iv n.Irq) (fun w_ M_ => (eE false 1 1 (b.1.toNat * 3 + 1) (j.mem0 M_) K)) (MZ 1 (zV (iv h.Priority) (fun w_ M_ => (eL false 1 2 (M_.blk 0 rfl))) (MZ 1 (zV (iv h.Irq) (fun w_ M_ => (eL false 1 1 (M_.blk 0 rfl))) (GD hm fun t au hm => ZC (.bool t) (fun w_ M_ => c_s_l8Less w_ k.Priority n.Irq h.Priority h.Irq au) (MZ 2 (Z_end fun bc X => ?_)))))))))))))))
       obtain rfl := HS hm
       exact NM fun a ha => ⟨X.pk [], ha.s⟩
      refine zK 46 false E (MS 17 [(0, SL c d f), (1, .bool g), (5, iv b.1), (6, iv b.2), (63, .bool false)] (Z_end fun bd Y => ?_))
      obtain rfl := HS hm
      exact NM fun a ha => ⟨Y.pk [], ha.s⟩
     refine zK 25 false C (MS 21 [(0, SL c d f), (1, .bool g), (5, iv b.1), (6, iv b.2), (7, pB i 0), (43, .bool false), (46, .bool (!g))] ?_)
     rcases gx_bif hm with ⟨F, hm⟩ | ⟨F, hm⟩
     ·refine zK 46 true F (MZ 2 (GD hm fun l L hm => zV (elemP c (b.1.toNat * 3)) (fun w_ M_ => (eI (j.mem0 M_) rfl L)) (zV (elemP c (b.1.toNat * 3 + 2)) (fun w_ M_ => (eF 2 (b.1.toNat * 3) 2 (j.mem0 M_) L)) (zV (iv l.Priority) (fun w_ M_ => (eE false 1 2 (b.1.toNat * 3 + 2) (j.mem0 M_) L)) (MZ 2 (GD hm fun o N hm => zV (elemP c (b.1.toNat * 3)) (fun w_ M_ => (eI (j.mem0 M_) rfl N)) (zV (elemP c (b.1.toNat * 3 + 1)) (fun w_ M_ => (eF 1 (b.1.toNat * 3) 1 (j.mem0 M_) N)) (zV (iv o.Irq) (fun w_ M_ => (eE false 1 1 (b.1.toNat * 3 + 1) (j.mem0 M_) N)) (MZ 1 (zV (iv h.Priority) (fun w_ M_ => (eL false 1 2 (M_.blk 0 rfl))) (MZ 1 (zV (iv h.Irq) (fun w_ M_ => (eL false 1 1 (M_.blk 0 rfl))) (GD hm fun u av hm => ZC (.bool u) (fun w_ M_ => c_s_l8Less w_ l.Priority o.Irq h.Priority h.Irq av) (MZ 2 (Z_end fun be Z => ?_)))))))))))))))
      obtain rfl := HS hm
      exact NM fun a ha => ⟨Z.pk [], ha.s⟩
     refine zK 46 false F (MS 17 [(0, SL c d f), (1, .bool g), (5, iv b.1), (6, iv b.2), (63, .bool false)] (Z_end fun bf aa => ?_))
     obtain rfl := HS hm
     exact NM fun a ha => ⟨aa.pk [], ha.s⟩
    intro a5 az ⟨R, af⟩
    refine N_use af ?_
    have hm := ak
    refine TN (GD hm fun ay ap al => G_meet (fun a w' => Mem [] w w' [] ∧ Sat Tryz.f236.ntmps [(0, SL c d f), (1, .bool g), (5, iv ay), (6, iv b.2)] a) ?_ ?_)
    ·have hm := ap
     refine GT hm (fun G hm => ?_) fun G hm => ?_
     ·refine GR (MW 2 (WN ?_))
      obtain rfl := HS hm
      exact NM fun a ha => ⟨R.pk [], ha.s⟩
     refine GK ?_
     obtain rfl := HS hm
     exact NM fun a ha => ⟨R.pk [], ha.s⟩
    intro a6 bg ⟨ab, ag⟩
    refine N_use ag ?_
    have hm := al
    refine BN ?_
    obtain rfl := HS hm
    exact NM fun a ha => ⟨ab.pk [], ha.s⟩
   intro a7 a0 ⟨ac, ah⟩
   refine N_use ah ?_
   have hm := aj
   refine TN (GR (MW 3 (WN ?_)))
   cases hm
   exact N_loop fun a ha => ⟨_, rfl, ac.pk [], ha.s⟩
  refine XA ?_
  obtain rfl := HS hm
  obtain rfl := aq _ rfl
  exact NM fun a ha => ⟨q.pk [], ha.s⟩
 intro a8 a3 ⟨ad, ai⟩
 refine N_use ai ?_
 have hm := am
 refine NF (MW 2 (NC ?_))
 obtain rfl := HS hm
 exact RA [iv O] (⟨rfl, ad.pk []⟩)
theorem c_s_l9Settled (w : World) (d : Queue) (f g) (i : rdS encSlot w d.Slots f g) (h l) (m : rdS encWaiter w d.Waiting h l) {r : Bool} (hm : M.s_l9Settled d = some r) :
  Calls Tryz.prog 190 #[.agg #[SL f d.Slots g, SL h d.Waiting l]] w fun e w' => e = .returned (.bool r) ∧ Mem [] w w' [] := by
 unfold M.s_l9Settled at hm
 refine cE Tryz.func190 ?_
 have M0 := Mem.refl [] w
 refine QA (wN (CE 85 [SL f d.Slots g, SL h d.Waiting l]) M0 fun b j n => MW 1 (NB (MW 1 (wV (SL h d.Waiting l) j (eL false 1 1 (n.blk 0 rfl)) (MW 2 (NO (GT hm (fun x hm => ?_) fun x hm => ?_)))))))
 ·refine QA (MW 1 (ND ?_))
  obtain rfl := HS hm
  exact RA [.bool true] (⟨rfl, n.pk []⟩)
 refine KB (MW 1 (wV (SL f d.Slots g) j (eL false 1 0 (n.blk 0 rfl)) (GD hm fun T Q hm => WD (c_s_l8Free j d.Slots f g (i.mem0 n) Q) n fun o t => MW 1 (NO (GT hm (fun y hm => ?_) fun y hm => ?_)))))
 ·refine QA (MW 1 (ND ?_))
  obtain rfl := HS hm
  exact RA [.bool false] (⟨rfl, t.pk []⟩)
 refine KA (MW 1 (wV (SL f d.Slots g) o (eL false 1 0 (t.blk 0 rfl)) (GD hm fun c R hm => WD (c_s_l8Best o d.Slots f g (i.mem0 t) false R) t fun U I => MW 1 (NE (GD hm fun F P O => G_meet (fun a w' => Mem [] w w' [] ∧ Sat Tryz.f190.ntmps [(2, .bool F)] a) ?_ ?_)))))
 ·have hm := P
  refine G_quiet (by kernel_rfl) (by kernel_rfl) I (MS 3 [(1, pB b 0), (3, iv c), (17, .bool (decide (c < 0)))] ?_)
  rcases gx_bif hm with ⟨z, hm⟩ | ⟨z, hm⟩
  ·refine zK 17 true z (MS 25 [(2, .bool true)] (Z_end fun W J => ?_))
   obtain rfl := HS hm
   exact NM fun a ha => ⟨J.pk [], ha.s⟩
  refine zK 17 false z (MZ 1 (zV (SL f d.Slots g) (fun w_ M_ => (eL false 1 0 (M_.blk 0 rfl))) (MZ 1 (GD hm fun k A hm => zV (elemP f (c.toNat * 3)) (fun w_ M_ => (eI (i.mem0 M_) rfl A)) (zV (elemP f (c.toNat * 3 + 2)) (fun w_ M_ => (eF 2 (c.toNat * 3) 2 (i.mem0 M_) A)) (zV (iv k.Priority) (fun w_ M_ => (eE false 1 2 (c.toNat * 3 + 2) (i.mem0 M_) A)) (MZ 1 (zV (SL f d.Slots g) (fun w_ M_ => (eL false 1 0 (M_.blk 0 rfl))) (MZ 1 (GD hm fun q B hm => zV (elemP f (c.toNat * 3)) (fun w_ M_ => (eI (i.mem0 M_) rfl B)) (zV (elemP f (c.toNat * 3 + 1)) (fun w_ M_ => (eF 1 (c.toNat * 3) 1 (i.mem0 M_) B)) (zV (iv q.Irq) (fun w_ M_ => (eE false 1 1 (c.toNat * 3 + 1) (i.mem0 M_) B)) (MZ 1 (zV (SL h d.Waiting l) (fun w_ M_ => (eL false 1 1 (M_.blk 0 rfl))) (GD hm fun v C hm => zV (elemP h ((0 : Int).toNat * 2)) (fun w_ M_ => (eI (m.mem0 M_) rfl C)) (zV (elemP h ((0 : Int).toNat * 2 + 1)) (fun w_ M_ => (eF 1 ((0 : Int).toNat * 2) 1 (m.mem0 M_) C)) (zV (iv v.Priority) (fun w_ M_ => (eE false 1 1 ((0 : Int).toNat * 2 + 1) (m.mem0 M_) C)) (MZ 1 (zV (SL h d.Waiting l) (fun w_ M_ => (eL false 1 1 (M_.blk 0 rfl))) (GD hm fun E D hm => zV (elemP h ((0 : Int).toNat * 2)) (fun w_ M_ => (eI (m.mem0 M_) rfl D)) (zV (elemP h ((0 : Int).toNat * 2 + 0)) (fun w_ M_ => (eF 0 ((0 : Int).toNat * 2) 0 (m.mem0 M_) D)) (zV (iv E.Irq) (fun w_ M_ => (eE false 1 0 ((0 : Int).toNat * 2 + 0) (m.mem0 M_) D)) (GD hm fun u S hm => ?_)))))))))))))))))))))))
  refine ZC (.bool u) (fun w_ M_ => c_s_l8Less w_ k.Priority q.Irq v.Priority E.Irq S) (MZ 2 (Z_end fun X K => ?_))
  obtain rfl := HS hm
  exact NM fun a ha => ⟨K.pk [], ha.s⟩
 intro V Y ⟨L, N⟩
 refine N_use N ?_
 have hm := O
 refine TN (G_ret ?_)
 obtain rfl := HS hm
 exact RA [.bool F] (⟨rfl, L.pk []⟩)
theorem c_s_l9Good (w : World) (b : Queue) (d c) (n : rdS encSlot w b.Slots d c) (g f) (o : rdS encWaiter w b.Waiting g f) {r : Bool} (hm : M.s_l9Good b = some r) :
  Calls Tryz.prog 154 #[.agg #[SL d b.Slots c, SL g b.Waiting f]] w fun e w' => e = .returned (.bool r) ∧ Mem [] w w' [] := by
 unfold M.s_l9Good at hm
 refine cE Tryz.func154 ?_
 have M0 := Mem.refl [] w
 refine QA (wN (CE 85 [SL d b.Slots c, SL g b.Waiting f]) M0 fun h i j => MW 1 (NE (GD hm fun q A z => G_meet (fun a w' => Mem [] w w' [] ∧ Sat Tryz.f154.ntmps [(2, .bool q)] a) ?_ ?_)))
 ·have hm := A
  refine GR (MW 1 (wV (SL d b.Slots c) i (eL false 1 0 (j.blk 0 rfl)) (MW 1 (wV (SL g b.Waiting f) i (eL false 1 1 (j.blk 0 rfl)) (GD hm fun D B hm => WD (c_s_l9Waiting i b.Slots d c (n.mem0 j) b.Waiting g f (o.mem0 j) B) j fun l k => wR 1 [(1, pB h 0), (8, .bool D)] l ?_)))))
  rcases gx_bif hm with ⟨m, hm⟩ | ⟨m, hm⟩
  ·refine wK 8 true m (wV (.agg #[SL d b.Slots c, SL g b.Waiting f]) l (eL true 2 0 (k.blk 0 rfl)) (GD hm fun E C hm => WD (c_s_l9Settled l b d c (n.mem0 k) g f (o.mem0 k) C) k fun F v => MW 2 (WN ?_)))
   obtain rfl := HS hm
   exact NM fun a ha => ⟨v.pk [], ha.s⟩
  refine wK 8 false m (MW 4 (WN ?_))
  obtain rfl := HS hm
  exact NM fun a ha => ⟨k.pk [], ha.s⟩
 intro G H ⟨x, y⟩
 refine N_use y ?_
 have hm := z
 refine TN (G_ret ?_)
 obtain rfl := HS hm
 exact RA [.bool q] (⟨rfl, x.pk []⟩)
theorem c_s_l1Put (w : World) (d : List Int) (c b l) (A : ownS Gx.encI d c b l) (g : Int) (hA : ∀ q ∈ List.flatten [l], w.heap[q.1]? = some q.2) (hN : (idsOf [l]).Nodup) {r : (List Int)} (hm : M.s_l1Put d g = some r) :
  Calls Tryz.prog 191 #[SL c d b, iv g] w fun e w' => ∃ an ah ao, e = .returned (SL an r ah) ∧ ownS Gx.encI r an ah ao ∧ Mem (idsOf [l]) w w' [ao] := by
 unfold M.s_l1Put at hm
 refine cE Tryz.func191 ?_
 have M0 := Mem.start' w [l] hA hN
 refine QA (MW 1 (NA (MW 1 (NE (GD hm fun k bm bh => G_meet (fun a w' => Mem (idsOf [l]) w w' [l] ∧ Sat Tryz.f191.ntmps [(0, SL c d b), (1, iv g), (5, iv k)] a) ?_ ?_)))))
 ·refine GB (G_while (σ := Int) (ρ := Int) (fun n a w' => Mem (idsOf [l]) w w' [l] ∧ Sat Tryz.f191.ntmps [(0, SL c d b), (1, iv g), (5, iv n)] a) bm (fun a ha => ⟨M0.pk [0], ha.s⟩) ?_)
  clear hm
  intro n ch hm bl b5 F ⟨J, a8⟩
  refine G_use a8 (GS (GS (GD hm fun bn bi bf => G_meet (fun a w' => Mem (idsOf [l]) w w' [l] ∧ Sat Tryz.f191.ntmps [(0, SL c d b), (1, iv g), (5, iv n), (17, .bool bn)] a) ?_ ?_)))
  ·have hm := bi
   refine GR (wR 5 [(0, SL c d b), (1, iv g), (5, iv n), (10, .bool (decide (n < (d.length : Int))))] F ?_)
   rcases gx_bif hm with ⟨Q, hm⟩ | ⟨Q, hm⟩
   ·refine wK 10 true Q (MW 2 (GD hm fun ap ai hm => wV (elemP c (n.toNat * 1)) F (eI (A.r J 0) rfl ai) (wV (iv ap) F (eE false 1 0 (n.toNat * 1) (A.r J 0) ai) (MW 3 (WN ?_)))))
    obtain rfl := HS hm
    exact NM fun a ha => ⟨J.pk [0], ha.s⟩
   refine wK 10 false Q (MW 7 (WN ?_))
   obtain rfl := HS hm
   exact NM fun a ha => ⟨J.pk [0], ha.s⟩
  intro b6 bt ⟨Z, a9⟩
  refine N_use a9 ?_
  have hm := bf
  refine TN (GT hm (fun S hm => ?_) fun S hm => ?_)
  ·refine GK (TN (GB (GR (MW 3 (WN (BN ?_))))))
   cases hm
   exact N_loop fun a ha => ⟨_, rfl, Z.pk [0], ha.s⟩
  refine XA ?_
  obtain rfl := HS hm
  obtain rfl := bl _ rfl
  exact NM fun a ha => ⟨Z.pk [0], ha.s⟩
 intro b7 G ⟨K, ba⟩
 refine N_use ba ?_
 have hm := bh
 refine TN (GS (GS (GD hm fun am bj bg => G_meet (fun a w' => Mem (idsOf [l]) w w' [l] ∧ Sat Tryz.f191.ntmps [(0, SL c d b), (1, iv g), (5, iv k), (31, .bool am)] a) ?_ ?_)))
 ·have hm := bj
  refine GR (wR 5 [(0, SL c d b), (1, iv g), (5, iv k), (24, .bool (decide (k < (d.length : Int))))] G ?_)
  rcases gx_bif hm with ⟨T, hm⟩ | ⟨T, hm⟩
  ·refine wK 24 true T (MW 2 (GD hm fun aq aj hm => wV (elemP c (k.toNat * 1)) G (eI (A.r K 0) rfl aj) (wV (iv aq) G (eE false 1 0 (k.toNat * 1) (A.r K 0) aj) (MW 3 (WN ?_)))))
   obtain rfl := HS hm
   exact NM fun a ha => ⟨K.pk [0], ha.s⟩
  refine wK 24 false T (MW 7 (WN ?_))
  obtain rfl := HS hm
  exact NM fun a ha => ⟨K.pk [0], ha.s⟩
 intro b8 bu ⟨aa, bb⟩
 refine N_use bb ?_
 have hm := bg
 refine TN (GT hm (fun U hm => ?_) fun U hm => ?_)
 ·refine QA (MW 2 (ND ?_))
  obtain rfl := HS hm
  exact RA [SL c d b] (⟨c, b, l, rfl, A, aa.pk [0]⟩)
 refine GK (TN (GS (GD hm fun N ak hm => GD hm fun H bc hm => GD hm fun I bd hm => GD hm fun O al hm => GU [(0, SL c d b), (1, iv g), (5, iv k), (31, .bool am)] (DL 11 [[],[],[],[1,2],[0,3],[],[5],[4,6],[],[],[8,9]] [[],[],[],[],[0],[],[],[4],[],[],[]] [[],[],[],[],[],[],[],[6],[],[],[]] (EM 11) (EM 11) (EM 11) (fun _ => []) [fun f v s => ∃ B x, v = (.slice B ([] : List Int).length x : Value) ∧ ownS Gx.encI ([] : List Int) B x s, QV (.slice c d.length b), QV (iv k), QV (.slice (subP c (0 : Int).toNat b 1) N.length (b - (0 : Int).toNat)), fun f v s => ∃ C y, v = (.slice C H.length y : Value) ∧ ownS Gx.encI H C y s, QV (iv g), fun f v s => ∃ u t, v = (.slice u [g].length t : Value) ∧ ownS Gx.encI [g] u t s, fun f v s => ∃ D z, v = (.slice D I.length z : Value) ∧ ownS Gx.encI I D z s, QV (.slice c d.length b), QV (iv k), QV (.slice (subP c k.toNat b 1) O.length (b - k.toNat))] [] [6, 7, 10] [6, 7] (aa.preNil 11) (AC ?_ (AC ?_ (AC ?_ (AC ?_ (AC ?_ (AC ?_ (AC ?_ (AC ?_ (AC ?_ (AC ?_ (AC ?_ AN))))))))))) ?_))))
 ·intro m o R b9 ar
  exact wL (E := Gx.encI) ([] : List Int) 0 [] 3 ar fun B x bo ca V au => WN (oE (SL B ([] : List Int) x) bo ⟨B, x, rfl, V⟩ (Mem.mid au))
 ·intro m o R bv av
  exact OM ⟨rfl, rfl⟩ av
 ·intro m o R bw aw
  exact OM ⟨rfl, rfl⟩ aw
 ·rintro m o v1_ ⟨rfl, _⟩
  rintro v2_ ⟨rfl, _⟩ R bx ab
  exact OV ⟨rfl, rfl⟩ (E_slice (E := Gx.encI) _ _ _ _ d.length 0 k rfl (by kernel_rfl) (Or.inl ⟨rfl, rfl⟩) (Or.inr ⟨_, rfl, by kernel_rfl⟩) (by kernel_rfl) (A.r ab 0) rfl ak) ab
 ·intro m o v0_ hb0_
  obtain ⟨B, x, rfl, V⟩ := hb0_
  rintro v3_ ⟨rfl, _⟩ R cb ac
  exact wA 8 [iv 0] 2 ac V ((A.r ac 0).sliceM ak) bc fun C y bp cc W ax => WN (oE (SL C H y) bp ⟨C, y, rfl, W⟩ (Mem.takeOver ax))
 ·intro m o R bz ay
  exact OM ⟨rfl, rfl⟩ ay
 ·rintro m o v5_ ⟨rfl, _⟩ R cd az
  exact wL (E := Gx.encI) [g] 1 [iv g] 3 az fun u t bq ce L a0 => WN (oE (SL u [g] t) bq ⟨u, t, rfl, L⟩ (Mem.mid a0))
 ·intro m o v4_ hb4_
  obtain ⟨C, y, rfl, W⟩ := hb4_
  intro v6_ hb6_
  obtain ⟨u, t, rfl, L⟩ := hb6_
  intro R cf ad
  exact wA 8 [iv 0] 2 ad W (L.r ad 3) bd fun D z br cg X a3 => WN (oE (SL D I z) br ⟨D, z, rfl, X⟩ (Mem.takeOver a3))
 ·intro m o R b0 a4
  exact OM ⟨rfl, rfl⟩ a4
 ·intro m o R b1 a5
  exact OM ⟨rfl, rfl⟩ a5
 ·rintro m o v8_ ⟨rfl, _⟩
  rintro v9_ ⟨rfl, _⟩ R b2 ae
  exact OV ⟨rfl, rfl⟩ (E_slice (E := Gx.encI) _ _ _ _ d.length k (d.length : Int) rfl (by kernel_rfl) (Or.inr ⟨_, rfl, by kernel_rfl⟩) (Or.inl ⟨rfl, rfl⟩) (by kernel_rfl) (A.r ae 0) rfl al) ae
 intro m o v6_ hb6_
 obtain ⟨u, t, rfl, L⟩ := hb6_
 intro v7_ hb7_
 obtain ⟨D, z, rfl, X⟩ := hb7_
 rintro v10_ ⟨rfl, _⟩ b3 a6
 have af : Mem (idsOf [l]) w b3 [l, (m 6), (m 7)] := a6
 refine GD hm fun ag be hm => wA 8 [iv 0] 2 af X ((A.r af 0).sliceM al) be fun Y P bs b4 bk a7 => MW 1 (NC ?_)
 obtain rfl := HS hm
 exact RA [SL Y ag P] (⟨Y, P, bs, rfl, bk, a7.pk [2]⟩)
theorem c_s_l8Active (w : World) (d : List Slot) (c f) (k : rdS encSlot w d c f) {r : (List Int)} (hm : M.s_l8Active d = some r) :
  Calls Tryz.prog 155 #[SL c d f] w fun e w' => ∃ O L Q, e = .returned (SL O r L) ∧ ownS Gx.encI r O L Q ∧ Mem [] w w' [Q] := by
 unfold M.s_l8Active at hm
 refine cE Tryz.func155 ?_
 have M0 := Mem.refl [] w
 refine QA (MW 1 (NA (wL (E := Gx.encI) ([] : List Int) 0 [] 3 M0 fun J z ar R ag V => MW 1 (NB (MW 1 (NO (GD hm fun v ao af => G_meet (fun a w' => ∃ o n x, ownS Gx.encI v o n x ∧ Mem [] w w' [x] ∧ Sat Tryz.f155.ntmps [(3, SL o v n)] a) ?_ ?_)))))))
 ·refine GB (G_while (σ := List Int × Int) (ρ := List Int) (fun b a w' => ∃ h g m, ownS Gx.encI b.1 h g m ∧ Mem [] w w' [m] ∧ Sat Tryz.f155.ntmps [(0, SL c d f), (3, SL h b.1 g), (4, iv b.2)] a) ao (fun a ha => ⟨J, z, ar, ag, V.pk [0], ha.s⟩) ?_)
  clear hm
  intro b a4 hm am ay i ⟨h, g, m, D, j, Z⟩
  refine G_use Z (QB (MW 4 (NO (GT hm (fun A hm => ?_) fun A hm => ?_))))
  ·refine GK (TN (GS (GB (GS (GD hm fun ap ai ad => G_meet (fun a w' => Mem [] w w' [m] ∧ Sat Tryz.f155.ntmps [(0, SL c d f), (3, SL h b.1 g), (4, iv b.2), (25, .bool ap)] a) ?_ ?_)))))
   ·have hm := ai
    refine GR (MW 2 (GD hm fun S F hm => wV (elemP c (b.2.toNat * 3)) i (eI (k.mem0 j) rfl F) (wV (elemP c (b.2.toNat * 3 + 0)) i (eF 0 (b.2.toNat * 3) 0 (k.mem0 j) F) (wV (iv S.State) i (eE false 1 0 (b.2.toNat * 3 + 0) (k.mem0 j) F) (wR 2 [(0, SL c d f), (3, SL h b.1 g), (4, iv b.2), (18, .bool (S.State == 2))] i ?_)))))
    rcases gx_bif hm with ⟨B, hm⟩ | ⟨B, hm⟩
    ·refine wK 18 true B (MW 7 (WN ?_))
     obtain rfl := HS hm
     exact NM fun a ha => ⟨j.pk [0], ha.s⟩
    refine wK 18 false B (MW 2 (GD hm fun T G hm => wV (elemP c (b.2.toNat * 3)) i (eI (k.mem0 j) rfl G) (wV (elemP c (b.2.toNat * 3 + 0)) i (eF 0 (b.2.toNat * 3) 0 (k.mem0 j) G) (wV (iv T.State) i (eE false 1 0 (b.2.toNat * 3 + 0) (k.mem0 j) G) (MW 2 (WN ?_))))))
    obtain rfl := HS hm
    exact NM fun a ha => ⟨j.pk [0], ha.s⟩
   intro az u ⟨l, aa⟩
   refine N_use aa ?_
   have hm := ad
   refine TN (GD hm fun I aj ae => G_meet (fun a w' => ∃ t q y, ownS Gx.encI I t q y ∧ Mem [] w w' [y] ∧ Sat Tryz.f155.ntmps [(0, SL c d f), (3, SL t I q), (4, iv b.2)] a) ?_ ?_)
   ·have hm := aj
    refine GT hm (fun C hm => ?_) fun C hm => ?_
    ·refine GR (MW 3 (GD hm fun K H hm => wV (elemP c (b.2.toNat * 3)) u (eI (k.mem0 l) rfl H) (wV (elemP c (b.2.toNat * 3 + 1)) u (eF 1 (b.2.toNat * 3) 1 (k.mem0 l) H) (wV (iv K.Irq) u (eE false 1 1 (b.2.toNat * 3 + 1) (k.mem0 l) H) (GD hm fun aq an hm => WC ((c_s_l1Put u b.1 h g m D K.Irq (l.hasPick [0]) (l.nodupPick [0] (by kernel_rfl)) an).mono ?_))))))
     rintro e_ av ⟨P, N, au, rfl, al, U⟩
     have W := l.callF' [0] [] (by kernel_rfl) U
     refine ⟨_, rfl, ?_⟩
     refine MW 1 (WN ?_)
     obtain rfl := HS hm
     exact NM fun a ha => ⟨P, N, au, al, W.pk [0], ha.s⟩
    refine GK ?_
    obtain rfl := HS hm
    exact NM fun a ha => ⟨h, g, m, D, l.pk [0], ha.s⟩
   intro a0 aw ⟨t, q, y, ak, X, ab⟩
   refine N_use ab ?_
   have hm := ae
   refine BN (TN (GR (wR 3 [(0, SL c d f), (3, SL t I q), (4, iv (w64 (b.2 + 1)))] aw (WN ?_))))
   cases hm
   exact N_loop fun a ha => ⟨_, rfl, t, q, y, ak, X.pk [0], ha.s⟩
  refine XA ?_
  obtain rfl := HS hm
  obtain rfl := am _ rfl
  exact NM fun a ha => ⟨h, g, m, D, j.pk [0], ha.s⟩
 intro a3 ax ⟨o, n, x, ah, Y, ac⟩
 refine N_use ac ?_
 have hm := af
 refine NF (MW 2 (NC ?_))
 obtain rfl := HS hm
 exact RA [SL o v n] (⟨o, n, x, rfl, ah, Y.pk [0]⟩)
theorem c_s_l1Has (w : World) (b : List Int) (c d) (l : rdS Gx.encI w b c d) (g : Int) {r : Bool} (hm : M.s_l1Has b g = some r) :
  Calls Tryz.prog 131 #[SL c b d, iv g] w fun e w' => e = .returned (.bool r) ∧ Mem [] w w' [] := by
 unfold M.s_l1Has at hm
 refine cE Tryz.func131 ?_
 have M0 := Mem.refl [] w
 refine QA (MW 1 (NB (MW 1 (NO (GD hm fun z y m => G_meet (fun a w' => ∃ (q : Unit), z = .inl q ∧ Mem [] w w' [] ∧ Sat Tryz.f131.ntmps [] a) ?_ ?_)))))
 ·refine GB (G_while (σ := Int) (ρ := (Unit) ⊕ (Bool)) (fun f a w' => Mem [] w w' [] ∧ Sat Tryz.f131.ntmps [(0, SL c b d), (1, iv g), (5, iv f)] a) y (fun a ha => ⟨M0.pk [], ha.s⟩) ?_)
  clear hm
  intro f D hm n B h ⟨i, v⟩
  refine G_use v (QB (MW 4 (NO (GT hm (fun j hm => ?_) fun j hm => ?_))))
  ·refine KD (MW 2 (GD hm fun t o hm => wV (elemP c (f.toNat * 1)) h (eI (l.mem0 i) rfl o) (wV (iv t) h (eE false 1 0 (f.toNat * 1) (l.mem0 i) o) (MW 2 (NO (GT hm (fun k hm => ?_) fun k hm => ?_))))))
   ·refine QA (MW 1 (NX ?_))
    obtain rfl := HS hm
    obtain rfl := n _ rfl
    have hm := m; simp only [Sum.elim_inr] at hm
    refine BR (N_meet_ret (TR ?_))
    obtain rfl := HS hm
    exact RA [.bool true] (⟨rfl, i.pk []⟩)
   refine KC (MW 3 (WN ?_))
   cases hm
   exact N_loop fun a ha => ⟨_, rfl, i.pk [], ha.s⟩
  refine XA ?_
  obtain rfl := HS hm
  obtain rfl := n _ rfl
  exact NM fun a ha => ⟨_, rfl, i.pk [], ha.s⟩
 intro C A ⟨q, hout_, u, x⟩
 refine N_use x ?_
 subst hout_
 have hm := m; simp only [Sum.elim_inl] at hm
 refine NF (MW 1 (NC ?_))
 obtain rfl := HS hm
 exact RA [.bool false] (⟨rfl, u.pk []⟩)
theorem c_s_l10Level (w : World) (a : Queue) (b c) (h : rdS encSlot w a.Slots b c) (l j) (t : rdS encWaiter w a.Waiting l j) (d : Int) {r : Int} (hm : M.s_l10Level a d = some r) :
  Calls Tryz.prog 156 #[.agg #[SL b a.Slots c, SL l a.Waiting j], iv d] w fun e w' => e = .returned (iv r) ∧ Mem [] w w' [] := by
 unfold M.s_l10Level at hm
 refine cE Tryz.func156 ?_
 have M0 := Mem.refl [] w
 refine QA (wN (CE 85 [SL b a.Slots c, SL l a.Waiting j]) M0 fun f q m => MW 1 (NE (G_quiet (by kernel_rfl) (by kernel_rfl) m (MZ 1 (zV (SL b a.Slots c) (fun w_ M_ => (eL false 1 0 (M_.blk 0 rfl))) (MZ 1 (zV (SL b a.Slots c) (fun w_ M_ => (eL false 1 0 (M_.blk 0 rfl))) (MZ 1 (GD hm fun g o hm => ZC (iv g) (fun w_ M_ => c_s_l8Find w_ a.Slots b c (h.mem0 M_) d o) (GD hm fun i k hm => zV (elemP b (g.toNat * 3)) (fun w_ M_ => (eI (h.mem0 M_) rfl k)) (zV (elemP b (g.toNat * 3 + 2)) (fun w_ M_ => (eF 2 (g.toNat * 3) 2 (h.mem0 M_) k)) (zV (iv i.Priority) (fun w_ M_ => (eE false 1 2 (g.toNat * 3 + 2) (h.mem0 M_) k)) (MZ 1 (Z_end fun u n => (TN (G_ret ?_))))))))))))))))
 obtain rfl := HS hm
 exact RA [iv i.Priority] (⟨rfl, n.pk []⟩)
theorem c_s_l10Good (w : World) (b : Interface) (j i) (o : rdS Gx.encI w b.Stack j i) (l k) (y : rdS encSlot w b.Queue.Slots l k) (n m) (G : rdS encWaiter w b.Queue.Waiting n m) {r : Bool} (hm : M.s_l10Good b = some r) :
  Calls Tryz.prog 104 #[.agg #[iv b.Mask, SL j b.Stack i, SL l b.Queue.Slots k, SL n b.Queue.Waiting m]] w fun e w' => e = .returned (.bool r) ∧ Mem [] w w' [] := by
 unfold M.s_l10Good at hm
 refine cE Tryz.func104 ?_
 have M0 := Mem.refl [] w
 refine QA (wN (CE 87 [iv b.Mask, SL j b.Stack i, SL l b.Queue.Slots k, SL n b.Queue.Waiting m]) M0 fun c C Y => MW 1 (NE (GS (GD hm fun bh a5 a0 => G_meet (fun a w' => Mem [] w w' [(BK c 87 [iv b.Mask, SL j b.Stack i, SL l b.Queue.Slots k, SL n b.Queue.Waiting m])] ∧ Sat Tryz.f104.ntmps [(1, pB c 0), (14, .bool bh)] a) ?_ ?_))))
 ·have hm := a5
  refine GR (MW 1 (wV (iv b.Mask) C (eL false 1 0 (Y.blk 0 rfl)) (GD hm fun bl a9 hm => WD (c_s_l1In C b.Mask 0 16 a9) Y fun u t => wR 2 [(1, pB c 0), (9, .bool (!bl))] u ?_)))
  rcases gx_bif hm with ⟨H, hm⟩ | ⟨H, hm⟩
  ·refine wK 9 true H (MW 5 (WN ?_))
   obtain rfl := HS hm
   exact NM fun a ha => ⟨t.pk [0], ha.s⟩
  refine wK 9 false H (MW 1 (wV (.agg #[SL l b.Queue.Slots k, SL n b.Queue.Waiting m]) u (eL true 2 2 (t.blk 0 rfl)) (GD hm fun bm ba hm => WD (c_s_l9Good u b.Queue l k (y.mem0 t) n m (G.mem0 t) ba) t fun bn an => MW 2 (WN ?_))))
  obtain rfl := HS hm
  exact NM fun a ha => ⟨an.pk [0], ha.s⟩
 intro bp D ⟨x, av⟩
 refine N_use av ?_
 have hm := a0
 refine TN (GT hm (fun I hm => ?_) fun I hm => ?_)
 ·refine QA (MW 1 (ND ?_))
  obtain rfl := HS hm
  exact RA [.bool false] (⟨rfl, x.pk []⟩)
 refine KA (MW 2 (wV (SL l b.Queue.Slots k) D (eL false 1 2 (x.blk 0 rfl)) (GD hm fun f bb hm => WC ((c_s_l8Active D b.Queue.Slots l k (y.mem0 x) bb).mono ?_))))
 rintro e_ ai ⟨h, g, B, rfl, a6, am⟩
 have ao := x.call am
 refine ⟨_, rfl, ?_⟩
 refine MW 1 (NB (MW 1 (NO (GD hm fun bk bg P => G_meet (fun a w' => ∃ (ah : Unit), bk = .inl ah ∧ Mem [] w w' [(BK c 87 [iv b.Mask, SL j b.Stack i, SL l b.Queue.Slots k, SL n b.Queue.Waiting m]), B] ∧ Sat Tryz.f104.ntmps [(1, pB c 0), (3, SL h f g)] a) ?_ ?_))))
 ·refine GB (G_while (σ := Int) (ρ := (Unit) ⊕ (Bool)) (fun d a w' => Mem [] w w' [(BK c 87 [iv b.Mask, SL j b.Stack i, SL l b.Queue.Slots k, SL n b.Queue.Waiting m]), B] ∧ Sat Tryz.f104.ntmps [(1, pB c 0), (3, SL h f g), (4, iv d)] a) bg (fun a ha => ⟨ao.pk [0, 1], ha.s⟩) ?_)
  clear hm
  intro d bz hm Q bq S ⟨F, aw⟩
  refine G_use aw (QB (MW 2 (wV (SL j b.Stack i) S (eL false 1 1 (F.blk 0 rfl)) (wR 2 [(1, pB c 0), (3, SL h f g), (4, iv d), (23, .bool (decide (d < (b.Stack.length : Int))))] S (NO (GT hm (fun J hm => ?_) fun J hm => ?_))))))
  ·refine GK (TN (GS (GB (GS (GS (GD hm fun bi a7 a3 => G_meet (fun a w' => Mem [] w w' [(BK c 87 [iv b.Mask, SL j b.Stack i, SL l b.Queue.Slots k, SL n b.Queue.Waiting m]), B] ∧ Sat Tryz.f104.ntmps [(1, pB c 0), (3, SL h f g), (4, iv d), (45, .bool bi)] a) ?_ ?_))))))
   ·have hm := a7
    refine G_quiet (by kernel_rfl) (by kernel_rfl) F (MZ 2 (zV (SL j b.Stack i) (fun w_ M_ => (eL false 1 1 (M_.blk 0 rfl))) (MZ 1 (GD hm fun U ac hm => zV (elemP j (d.toNat * 1)) (fun w_ M_ => (eI (o.mem0 M_) rfl ac)) (zV (iv U) (fun w_ M_ => (eE false 1 0 (d.toNat * 1) (o.mem0 M_) ac)) (GD hm fun z bc hm => ZC (.bool z) (fun w_ M_ => c_s_l1Has w_ f h g (a6.r M_ 1) U bc) (MS 2 [(1, pB c 0), (3, SL h f g), (4, iv d), (34, .bool (!z))] ?_)))))))
    rcases gx_bif hm with ⟨K, hm⟩ | ⟨K, hm⟩
    ·refine zK 34 true K (MZ 11 (Z_end fun bu ap => ?_))
     obtain rfl := HS hm
     exact NM fun a ha => ⟨ap.pk [0, 1], ha.s⟩
    refine zK 34 false K (MZ 1 (zV (SL j b.Stack i) (fun w_ M_ => (eL false 1 1 (M_.blk 0 rfl))) (MZ 1 (GD hm fun v ag hm => zV (SL (subP j (0 : Int).toNat i 1) v (i - (0 : Int).toNat)) (fun w_ M_ => (E_slice (E := Gx.encI) _ _ _ _ b.Stack.length 0 d rfl (by kernel_rfl) (Or.inl ⟨rfl, rfl⟩) (Or.inr ⟨_, rfl, by kernel_rfl⟩) (by kernel_rfl) (o.mem0 M_) rfl ag)) (MZ 1 (zV (SL j b.Stack i) (fun w_ M_ => (eL false 1 1 (M_.blk 0 rfl))) (MZ 1 (GD hm fun V ad hm => zV (elemP j (d.toNat * 1)) (fun w_ M_ => (eI (o.mem0 M_) rfl ad)) (zV (iv V) (fun w_ M_ => (eE false 1 0 (d.toNat * 1) (o.mem0 M_) ad)) (GD hm fun R bd hm => ZC (.bool R) (fun w_ M_ => c_s_l1Has w_ v (subP j (0 : Int).toNat i 1) (i - (0 : Int).toNat) ((o.mem0 M_).sliceM ag) V bd) (MS 1 [(1, pB c 0), (3, SL h f g), (4, iv d), (45, .bool R)] (Z_end fun bv aq => ?_))))))))))))
    obtain rfl := HS hm
    exact NM fun a ha => ⟨aq.pk [0, 1], ha.s⟩
   intro br bo ⟨Z, ax⟩
   refine N_use ax ?_
   have hm := a3
   refine TN (GT hm (fun L hm => ?_) fun L hm => ?_)
   ·refine QA (MW 1 (ND (BR (TR (TR ?_)))))
    obtain rfl := HS hm
    obtain rfl := Q _ rfl
    have hm := P; simp only [Sum.elim_inr] at hm
    refine BR (N_meet_ret (TR ?_))
    obtain rfl := HS hm
    exact RA [.bool false] (⟨rfl, Z.pk []⟩)
   refine GK (TN (GS (GD hm fun bj a8 a4 => G_meet (fun a w' => Mem [] w w' [(BK c 87 [iv b.Mask, SL j b.Stack i, SL l b.Queue.Slots k, SL n b.Queue.Waiting m]), B] ∧ Sat Tryz.f104.ntmps [(1, pB c 0), (3, SL h f g), (4, iv d), (67, .bool bj)] a) ?_ ?_)))
   ·have hm := a8
    refine G_quiet (by kernel_rfl) (by kernel_rfl) Z (MS 3 [(1, pB c 0), (3, SL h f g), (4, iv d), (48, .bool (decide (d > 0)))] ?_)
    rcases gx_bif hm with ⟨N, hm⟩ | ⟨N, hm⟩
    ·refine zK 48 true N (MZ 1 (zV (.agg #[SL l b.Queue.Slots k, SL n b.Queue.Waiting m]) (fun w_ M_ => (eL true 2 2 (M_.blk 0 rfl))) (MZ 1 (zV (SL j b.Stack i) (fun w_ M_ => (eL false 1 1 (M_.blk 0 rfl))) (MZ 2 (GD hm fun W ae hm => zV (elemP j ((w64 (d - 1)).toNat * 1)) (fun w_ M_ => (eI (o.mem0 M_) rfl ae)) (zV (iv W) (fun w_ M_ => (eE false 1 0 ((w64 (d - 1)).toNat * 1) (o.mem0 M_) ae)) (GD hm fun q be hm => ZC (iv q) (fun w_ M_ => c_s_l10Level w_ b.Queue l k (y.mem0 M_) n m (G.mem0 M_) W be) (MZ 1 (zV (.agg #[SL l b.Queue.Slots k, SL n b.Queue.Waiting m]) (fun w_ M_ => (eL true 2 2 (M_.blk 0 rfl))) (MZ 1 (zV (SL j b.Stack i) (fun w_ M_ => (eL false 1 1 (M_.blk 0 rfl))) (MZ 1 (GD hm fun X af hm => zV (elemP j (d.toNat * 1)) (fun w_ M_ => (eI (o.mem0 M_) rfl af)) (zV (iv X) (fun w_ M_ => (eE false 1 0 (d.toNat * 1) (o.mem0 M_) af)) (GD hm fun A bf hm => ZC (iv A) (fun w_ M_ => c_s_l10Level w_ b.Queue l k (y.mem0 M_) n m (G.mem0 M_) X bf) (MZ 2 (Z_end fun bw ar => ?_))))))))))))))))))
     obtain rfl := HS hm
     exact NM fun a ha => ⟨ar.pk [0, 1], ha.s⟩
    refine zK 48 false N (MS 19 [(1, pB c 0), (3, SL h f g), (4, iv d), (67, .bool false)] (Z_end fun bx au => ?_))
    obtain rfl := HS hm
    exact NM fun a ha => ⟨au.pk [0, 1], ha.s⟩
   intro bs aj ⟨aa, ay⟩
   refine N_use ay ?_
   have hm := a4
   refine TN (GT hm (fun O hm => ?_) fun O hm => ?_)
   ·refine QA (MW 1 (NX ?_))
    obtain rfl := HS hm
    obtain rfl := Q _ rfl
    have hm := P; simp only [Sum.elim_inr] at hm
    refine BR (N_meet_ret (TR ?_))
    obtain rfl := HS hm
    exact RA [.bool false] (⟨rfl, aa.pk []⟩)
   refine KC (MW 3 (WN ?_))
   cases hm
   exact N_loop fun a ha => ⟨_, rfl, aa.pk [0, 1], ha.s⟩
  refine XA ?_
  obtain rfl := HS hm
  obtain rfl := Q _ rfl
  exact NM fun a ha => ⟨_, rfl, F.pk [0, 1], ha.s⟩
 intro bt T ⟨ah, hout_, ab, az⟩
 refine N_use az ?_
 subst hout_
 have hm := P; simp only [Sum.elim_inl] at hm
 refine NF (MW 1 (wV (SL j b.Stack i) T (eL false 1 1 (ab.blk 0 rfl)) (MW 5 (NC ?_))))
 cases hm
 exact RA [.bool ((b.Stack.length : Int) == (f.length : Int))] (⟨rfl, ab.pk []⟩)
theorem c_s_l21Queue (w : World) (c : List Route) (b d) (n : rdS encRoute w c b d) (j : Queue) (o t) (U : rdS encSlot w j.Slots o t) (q u) (V : rdS encWaiter w j.Waiting q u) (f : Int) {r : Bool} (hm : M.s_l21Queue c j f = some r) :
  Calls Tryz.prog 105 #[SL b c d, .agg #[SL o j.Slots t, SL q j.Waiting u], iv f] w fun e w' => e = .returned (.bool r) ∧ Mem [] w w' [] := by
 unfold M.s_l21Queue at hm
 refine cE Tryz.func105 ?_
 have M0 := Mem.refl [] w
 refine QA (wN (CE 85 [SL o j.Slots t, SL q j.Waiting u]) M0 fun g ae ah => MW 1 (NB (MW 1 (NO (GD hm fun bc a8 W => G_meet (fun a w' => ∃ (ac : Unit), bc = .inl ac ∧ Mem [] w w' [(BK g 85 [SL o j.Slots t, SL q j.Waiting u])] ∧ Sat Tryz.f105.ntmps [(0, SL b c d), (2, iv f), (4, pB g 0)] a) ?_ ?_)))))
 ·refine GB (G_while (σ := Int) (ρ := (Unit) ⊕ (Bool)) (fun i a w' => Mem [] w w' [(BK g 85 [SL o j.Slots t, SL q j.Waiting u])] ∧ Sat Tryz.f105.ntmps [(0, SL b c d), (2, iv f), (4, pB g 0), (7, iv i)] a) a8 (fun a ha => ⟨ah.pk [0], ha.s⟩) ?_)
  clear hm
  intro i bw hm Y bg x ⟨A, aw⟩
  refine G_use aw (QB (MW 2 (wV (SL o j.Slots t) x (eL false 1 0 (A.blk 0 rfl)) (MW 2 (NO (GT hm (fun F hm => ?_) fun F hm => ?_))))))
  ·refine KD (MW 1 (wV (SL o j.Slots t) x (eL false 1 0 (A.blk 0 rfl)) (MW 1 (GD hm fun h aa hm => wV (elemP o (i.toNat * 3)) x (eI (U.mem0 A) rfl aa) (wV (.agg #[iv h.State, iv h.Irq, iv h.Priority]) x (eE true 3 0 (i.toNat * 3) (U.mem0 A) aa) (wN (CE 117 [iv 0, iv 0, iv 0]) A fun m bm ai => wS true 3 0 (.agg #[iv h.State, iv h.Irq, iv h.Priority]) 1 [iv h.State, iv h.Irq, iv h.Priority] ai rfl fun bn aj => NE (GD hm fun ba a6 a4 => G_meet (fun a w' => Mem [] w w' [(BK g 85 [SL o j.Slots t, SL q j.Waiting u])] ∧ Sat Tryz.f105.ntmps [(0, SL b c d), (2, iv f), (4, pB g 0), (7, iv i), (51, .bool ba)] a) ?_ ?_)))))))
   ·have hm := a6
    refine G_quiet (by kernel_rfl) (by kernel_rfl) aj (MZ 1 (zV (iv h.State) (fun w_ M_ => (eL false 1 0 (M_.blk 1 rfl))) (MS 2 [(0, SL b c d), (2, iv f), (4, pB g 0), (7, iv i), (8, pB m 0), (26, .bool (h.State == 3))] ?_)))
    rcases gx_bif hm with ⟨G, hm⟩ | ⟨G, hm⟩
    ·refine zK 26 true G (MS 25 [(0, SL b c d), (2, iv f), (4, pB g 0), (7, iv i), (51, .bool true)] (Z_end fun bo ak => ?_))
     obtain rfl := HS hm
     exact NM fun a ha => ⟨ak.pk [0], ha.s⟩
    refine zK 26 false G (MZ 1 (zV (iv h.State) (fun w_ M_ => (eL false 1 0 (M_.blk 1 rfl))) (MS 2 [(0, SL b c d), (2, iv f), (4, pB g 0), (7, iv i), (8, pB m 0), (26, .bool false), (30, .bool (h.State != 0))] ?_)))
    rcases gx_bif hm with ⟨H, hm⟩ | ⟨H, hm⟩
    ·refine zK 30 true H (MZ 2 (zV (iv h.Irq) (fun w_ M_ => (eL false 1 1 (M_.blk 1 rfl))) (GD hm fun D O hm => zV (elemP b (h.Irq.toNat * 2)) (fun w_ M_ => (eI (n.mem0 M_) rfl O)) (zV (elemP b (h.Irq.toNat * 2 + 1)) (fun w_ M_ => (eF 1 (h.Irq.toNat * 2) 1 (n.mem0 M_) O)) (zV (iv D.Target) (fun w_ M_ => (eE false 1 1 (h.Irq.toNat * 2 + 1) (n.mem0 M_) O)) (MS 3 [(0, SL b c d), (2, iv f), (4, pB g 0), (7, iv i), (8, pB m 0), (26, .bool false), (30, .bool true), (39, .bool (D.Target != f))] ?_))))))
     rcases gx_bif hm with ⟨I, hm⟩ | ⟨I, hm⟩
     ·refine zK 39 true I (MZ 12 (Z_end fun bp al => ?_))
      obtain rfl := HS hm
      exact NM fun a ha => ⟨al.pk [0], ha.s⟩
     refine zK 39 false I (MZ 2 (zV (iv h.Irq) (fun w_ M_ => (eL false 1 1 (M_.blk 1 rfl))) (GD hm fun z P hm => zV (elemP b (h.Irq.toNat * 2)) (fun w_ M_ => (eI (n.mem0 M_) rfl P)) (zV (elemP b (h.Irq.toNat * 2 + 0)) (fun w_ M_ => (eF 0 (h.Irq.toNat * 2) 0 (n.mem0 M_) P)) (zV (iv z.Priority) (fun w_ M_ => (eE false 1 0 (h.Irq.toNat * 2 + 0) (n.mem0 M_) P)) (MZ 1 (zV (iv h.Priority) (fun w_ M_ => (eL false 1 2 (M_.blk 1 rfl))) (MS 4 [(0, SL b c d), (2, iv f), (4, pB g 0), (7, iv i), (51, .bool (z.Priority != h.Priority))] (Z_end fun bq am => ?_)))))))))
     obtain rfl := HS hm
     exact NM fun a ha => ⟨am.pk [0], ha.s⟩
    refine zK 30 false H (MS 21 [(0, SL b c d), (2, iv f), (4, pB g 0), (7, iv i), (51, .bool false)] (Z_end fun br an => ?_))
    obtain rfl := HS hm
    exact NM fun a ha => ⟨an.pk [0], ha.s⟩
   intro bh af ⟨S, ax⟩
   refine N_use ax ?_
   have hm := a4
   refine TN (GT hm (fun J hm => ?_) fun J hm => ?_)
   ·refine QA (MW 1 (NX ?_))
    obtain rfl := HS hm
    obtain rfl := Y _ rfl
    have hm := W; simp only [Sum.elim_inr] at hm
    refine BR (N_meet_ret (TR ?_))
    obtain rfl := HS hm
    exact RA [.bool false] (⟨rfl, S.pk []⟩)
   refine KC (MW 3 (WN ?_))
   cases hm
   exact N_loop fun a ha => ⟨_, rfl, S.pk [0], ha.s⟩
  refine XA ?_
  obtain rfl := HS hm
  obtain rfl := Y _ rfl
  exact NM fun a ha => ⟨_, rfl, A.pk [0], ha.s⟩
 intro bi be ⟨ac, hout_, ao, ay⟩
 refine N_use ay ?_
 subst hout_
 have hm := W; simp only [Sum.elim_inl] at hm
 refine TN (QB (MW 1 (NO (GD hm fun bd a9 X => G_meet (fun a w' => ∃ (ad : Unit), bd = .inl ad ∧ Mem [] w w' [] ∧ Sat Tryz.f105.ntmps [] a) ?_ ?_))))
 ·refine GB (G_while (σ := Int) (ρ := (Unit) ⊕ (Bool)) (fun l a w' => Mem [] w w' [(BK g 85 [SL o j.Slots t, SL q j.Waiting u])] ∧ Sat Tryz.f105.ntmps [(0, SL b c d), (2, iv f), (4, pB g 0), (9, iv l)] a) a9 (fun a ha => ⟨ao.pk [0], ha.s⟩) ?_)
  clear hm
  intro l bx hm Z bj y ⟨B, az⟩
  refine G_use az (QB (MW 2 (wV (SL q j.Waiting u) y (eL false 1 1 (B.blk 0 rfl)) (MW 2 (NO (GT hm (fun K hm => ?_) fun K hm => ?_))))))
  ·refine KD (MW 1 (wV (SL q j.Waiting u) y (eL false 1 1 (B.blk 0 rfl)) (MW 1 (GD hm fun k ab hm => wV (elemP q (l.toNat * 2)) y (eI (V.mem0 B) rfl ab) (wV (.agg #[iv k.Irq, iv k.Priority]) y (eE true 2 0 (l.toNat * 2) (V.mem0 B) ab) (wN (CE 142 [iv 0, iv 0]) B fun v bs ap => wS true 2 0 (.agg #[iv k.Irq, iv k.Priority]) 1 [iv k.Irq, iv k.Priority] ap rfl fun bt aq => NE (GD hm fun bb a7 a5 => G_meet (fun a w' => Mem [] w w' [(BK g 85 [SL o j.Slots t, SL q j.Waiting u])] ∧ Sat Tryz.f105.ntmps [(0, SL b c d), (2, iv f), (4, pB g 0), (9, iv l), (82, .bool bb)] a) ?_ ?_)))))))
   ·have hm := a7
    refine G_quiet (by kernel_rfl) (by kernel_rfl) aq (MZ 2 (zV (iv k.Irq) (fun w_ M_ => (eL false 1 0 (M_.blk 1 rfl))) (GD hm fun E Q hm => zV (elemP b (k.Irq.toNat * 2)) (fun w_ M_ => (eI (n.mem0 M_) rfl Q)) (zV (elemP b (k.Irq.toNat * 2 + 1)) (fun w_ M_ => (eF 1 (k.Irq.toNat * 2) 1 (n.mem0 M_) Q)) (zV (iv E.Target) (fun w_ M_ => (eE false 1 1 (k.Irq.toNat * 2 + 1) (n.mem0 M_) Q)) (MS 3 [(0, SL b c d), (2, iv f), (4, pB g 0), (9, iv l), (10, pB v 0), (72, .bool (E.Target != f))] ?_))))))
    rcases gx_bif hm with ⟨L, hm⟩ | ⟨L, hm⟩
    ·refine zK 72 true L (MZ 10 (Z_end fun bu ar => ?_))
     obtain rfl := HS hm
     exact NM fun a ha => ⟨ar.pk [0], ha.s⟩
    refine zK 72 false L (MZ 2 (zV (iv k.Irq) (fun w_ M_ => (eL false 1 0 (M_.blk 1 rfl))) (GD hm fun C R hm => zV (elemP b (k.Irq.toNat * 2)) (fun w_ M_ => (eI (n.mem0 M_) rfl R)) (zV (elemP b (k.Irq.toNat * 2 + 0)) (fun w_ M_ => (eF 0 (k.Irq.toNat * 2) 0 (n.mem0 M_) R)) (zV (iv C.Priority) (fun w_ M_ => (eE false 1 0 (k.Irq.toNat * 2 + 0) (n.mem0 M_) R)) (MZ 1 (zV (iv k.Priority) (fun w_ M_ => (eL false 1 1 (M_.blk 1 rfl))) (MZ 2 (Z_end fun bv au => ?_)))))))))
    obtain rfl := HS hm
    exact NM fun a ha => ⟨au.pk [0], ha.s⟩
   intro bk ag ⟨T, a0⟩
   refine N_use a0 ?_
   have hm := a5
   refine TN (GT hm (fun N hm => ?_) fun N hm => ?_)
   ·refine QA (wR 1 [(6, .bool false)] ag (NX ?_))
    obtain rfl := HS hm
    obtain rfl := Z _ rfl
    have hm := X; simp only [Sum.elim_inr] at hm
    refine BR (N_meet_ret (TR ?_))
    obtain rfl := HS hm
    exact RA [.bool false] (⟨rfl, T.pk []⟩)
   refine KC (MW 3 (WN ?_))
   cases hm
   exact N_loop fun a ha => ⟨_, rfl, T.pk [0], ha.s⟩
  refine XA ?_
  obtain rfl := HS hm
  obtain rfl := Z _ rfl
  exact NM fun a ha => ⟨_, rfl, B.pk [], ha.s⟩
 intro bl bf ⟨ad, hout_, av, a3⟩
 refine N_use a3 ?_
 subst hout_
 have hm := X; simp only [Sum.elim_inl] at hm
 refine NF (MW 1 (NC ?_))
 obtain rfl := HS hm
 exact RA [.bool true] (⟨rfl, av.pk []⟩)
theorem c_s_l21Good (w : World) (b : Machine) (i h) (R : rdS encRoute w b.Routes i h) (t o) (a3 : rdS Gx.encB w b.Enabled t o) (u q) (a4 : rdS Gx.encB w b.Raised u q) (j l) (ab : rdD deepInterface w b.Cpus j l) {r : Bool} (hm : M.s_l21Good b = some r) :
  Calls Tryz.prog 54 #[.agg #[SL i b.Routes h, SL t b.Enabled o, SL u b.Raised q, SL j b.Cpus l]] w fun e w' => e = .returned (.bool r) ∧ Mem [] w w' [] := by
 unfold M.s_l21Good at hm
 refine cE Tryz.func54 ?_
 have M0 := Mem.refl [] w
 refine QA (wN (CE 32 [SL i b.Routes h, SL t b.Enabled o, SL u b.Raised q, SL j b.Cpus l]) M0 fun c v C => MW 1 (NE (GS (GD hm fun aq ai ag => G_meet (fun a w' => Mem [] w w' [(BK c 32 [SL i b.Routes h, SL t b.Enabled o, SL u b.Raised q, SL j b.Cpus l])] ∧ Sat Tryz.f54.ntmps [(1, pB c 0), (22, .bool aq)] a) ?_ ?_))))
 ·have hm := ai
  refine GR (MW 1 (wV (SL i b.Routes h) v (eL false 1 0 (C.blk 0 rfl)) (MW 1 (wV (SL j b.Cpus l) v (eL false 1 3 (C.blk 0 rfl)) (MW 1 (GD hm fun av ak hm => WD (c_s_l21Routes v b.Routes i h (R.mem0 C) (b.Cpus.length : Int) ak) C fun n x => wR 2 [(1, pB c 0), (11, .bool (!av))] n ?_))))))
  rcases gx_bif hm with ⟨H, hm⟩ | ⟨H, hm⟩
  ·refine wK 11 true H (MW 11 (WN ?_))
   obtain rfl := HS hm
   exact NM fun a ha => ⟨x.pk [0], ha.s⟩
  refine wK 11 false H (MW 1 (wV (SL t b.Enabled o) n (eL false 1 1 (x.blk 0 rfl)) (wR 4 [(1, pB c 0), (17, .bool ((b.Enabled.length : Int) != 8))] n ?_)))
  rcases gx_bif hm with ⟨I, hm⟩ | ⟨I, hm⟩
  ·refine wK 17 true I (MW 5 (WN ?_))
   obtain rfl := HS hm
   exact NM fun a ha => ⟨x.pk [0], ha.s⟩
  refine wK 17 false I (MW 1 (wV (SL u b.Raised q) n (eL false 1 2 (x.blk 0 rfl)) (MW 3 (WN ?_))))
  obtain rfl := HS hm
  exact NM fun a ha => ⟨x.pk [0], ha.s⟩
 intro ax V ⟨P, ac⟩
 refine N_use ac ?_
 have hm := ag
 refine TN (GT hm (fun J hm => ?_) fun J hm => ?_)
 ·refine QA (MW 1 (ND ?_))
  obtain rfl := HS hm
  exact RA [.bool false] (⟨rfl, P.pk []⟩)
 refine KB (MW 1 (NO (GD hm fun au an S => G_meet (fun a w' => ∃ (U : Unit), au = .inl U ∧ Mem [] w w' [] ∧ Sat Tryz.f54.ntmps [] a) ?_ ?_)))
 ·refine GB (G_while (σ := Int) (ρ := (Unit) ⊕ (Bool)) (fun d a w' => Mem [] w w' [(BK c 32 [SL i b.Routes h, SL t b.Enabled o, SL u b.Raised q, SL j b.Cpus l])] ∧ Sat Tryz.f54.ntmps [(1, pB c 0), (3, iv d)] a) an (fun a ha => ⟨P.pk [0], ha.s⟩) ?_)
  clear hm
  intro d a7 hm T ay O ⟨G, ad⟩
  refine G_use ad (QB (MW 2 (wV (SL j b.Cpus l) O (eL false 1 3 (G.blk 0 rfl)) (MW 2 (NO (GT hm (fun K hm => ?_) fun K hm => ?_))))))
  ·refine GK (TN (GS (GB (GS (GD hm fun ar aj ah => G_meet (fun a w' => Mem [] w w' [(BK c 32 [SL i b.Routes h, SL t b.Enabled o, SL u b.Raised q, SL j b.Cpus l])] ∧ Sat Tryz.f54.ntmps [(1, pB c 0), (3, iv d), (49, .bool ar)] a) ?_ ?_)))))
   ·have hm := aj
    refine G_quiet (by kernel_rfl) (by kernel_rfl) G (MZ 1 (zV (SL j b.Cpus l) (fun w_ M_ => (eL false 1 3 (M_.blk 0 rfl))) (MS 1 [(1, pB c 0), (3, iv d), (31, SL j b.Cpus l), (32, iv d)] (GD hm fun k ao hm => ?_))))
    obtain ⟨a8, D, B, A⟩ := id ab
    obtain ⟨f, y⟩ := gxIdx_fst D ao
    refine zV (elemP j (d.toNat * 4)) (fun w_ M_ => (eI (B.mem0 M_) (len_fst D) y)) (zV (.agg #[iv k.Mask, SL ((f 0).1) k.Stack ((f 0).2), SL ((f 1).1) k.Queue.Slots ((f 1).2), SL ((f 2).1) k.Queue.Waiting ((f 2).2)]) (fun w_ M_ => (eE true 4 0 (d.toNat * 4) (B.mem0 M_) y)) (GD hm fun E al hm => ZC (.bool E) (fun w_ M_ => c_s_l10Good w_ k ((f 0).1) ((f 0).2) ((A.mem0 M_).a_ y 0) ((f 1).1) ((f 1).2) ((A.mem0 M_).a_ y 1) ((f 2).1) ((f 2).2) ((A.mem0 M_).a_ y 2) al) (MS 2 [(1, pB c 0), (3, iv d), (37, .bool (!E))] ?_)))
    rcases gx_bif hm with ⟨L, hm⟩ | ⟨L, hm⟩
    ·refine zK 37 true L (MZ 12 (Z_end fun a5 Y => ?_))
     obtain rfl := HS hm
     exact NM fun a ha => ⟨Y.pk [0], ha.s⟩
    refine zK 37 false L (MZ 1 (zV (SL i b.Routes h) (fun w_ M_ => (eL false 1 0 (M_.blk 0 rfl))) (MZ 1 (zV (SL j b.Cpus l) (fun w_ M_ => (eL false 1 3 (M_.blk 0 rfl))) (MZ 1 (GD hm fun m ap hm => ?_))))))
    obtain ⟨g, z⟩ := gxIdx_fst D ap
    refine zV (elemP j (d.toNat * 4)) (fun w_ M_ => (eI (B.mem0 M_) (len_fst D) z)) (zV (elemP j (d.toNat * 4 + 2)) (fun w_ M_ => (eF 2 (d.toNat * 4) 2 (B.mem0 M_) z)) (zV (.agg #[SL ((g 1).1) m.Queue.Slots ((g 1).2), SL ((g 2).1) m.Queue.Waiting ((g 2).2)]) (fun w_ M_ => (eE true 2 2 (d.toNat * 4 + 2) (B.mem0 M_) z)) (MZ 1 (GD hm fun F am hm => ZC (.bool F) (fun w_ M_ => c_s_l21Queue w_ b.Routes i h (R.mem0 M_) m.Queue ((g 1).1) ((g 1).2) ((A.mem0 M_).a_ z 1) ((g 2).1) ((g 2).2) ((A.mem0 M_).a_ z 2) d am) (MS 2 [(1, pB c 0), (3, iv d), (49, .bool (!F))] (Z_end fun a6 Z => ?_))))))
    obtain rfl := HS hm
    exact NM fun a ha => ⟨Z.pk [0], ha.s⟩
   intro az W ⟨Q, ae⟩
   refine N_use ae ?_
   have hm := ah
   refine TN (GT hm (fun N hm => ?_) fun N hm => ?_)
   ·refine QA (MW 1 (NX ?_))
    obtain rfl := HS hm
    obtain rfl := T _ rfl
    have hm := S; simp only [Sum.elim_inr] at hm
    refine BR (N_meet_ret (TR ?_))
    obtain rfl := HS hm
    exact RA [.bool false] (⟨rfl, Q.pk []⟩)
   refine KC (MW 3 (WN ?_))
   cases hm
   exact N_loop fun a ha => ⟨_, rfl, Q.pk [0], ha.s⟩
  refine XA ?_
  obtain rfl := HS hm
  obtain rfl := T _ rfl
  exact NM fun a ha => ⟨_, rfl, G.pk [], ha.s⟩
 intro a0 aw ⟨U, hout_, aa, af⟩
 refine N_use af ?_
 subst hout_
 have hm := S; simp only [Sum.elim_inl] at hm
 refine NF (MW 1 (NC ?_))
 obtain rfl := HS hm
 exact RA [.bool true] (⟨rfl, aa.pk []⟩)
theorem c_s_IsMachine (w : World) (a : Machine) (h c) (t : rdS encRoute w a.Routes h c) (i d) (u : rdS Gx.encB w a.Enabled i d) (j f) (v : rdS Gx.encB w a.Raised j f) (k g) (x : rdD deepInterface w a.Cpus k g) {r : Bool} (hm : M.s_IsMachine a = some r) :
  Calls Tryz.prog 13 #[.agg #[SL h a.Routes c, SL i a.Enabled d, SL j a.Raised f, SL k a.Cpus g]] w fun e w' => e = .returned (.bool r) ∧ Mem [] w w' [] := by
 unfold M.s_IsMachine at hm
 refine cE Tryz.func13 ?_
 have M0 := Mem.refl [] w
 refine QA (wN (CE 32 [SL h a.Routes c, SL i a.Enabled d, SL j a.Raised f, SL k a.Cpus g]) M0 fun q l b => MW 1 (NA (wV (.agg #[SL h a.Routes c, SL i a.Enabled d, SL j a.Raised f, SL k a.Cpus g]) l (eL true 4 0 (b.blk 0 rfl)) (GD hm fun m y hm => WD (c_s_l21Good l a h c (t.mem0 b) i d (u.mem0 b) j f (v.mem0 b) k g (x.mem0 b) y) b fun z o => MW 1 (NC ?_)))))
 obtain rfl := HS hm
 exact RA [.bool m] (⟨rfl, o.pk []⟩)
theorem c_i_inside (w : World) (b : Int) (d : Int) (c : Int) {r : Bool} (hm : M.i_inside b d c = some r) :
  Calls Tryz.prog 108 #[iv b, iv d, iv c] w fun e w' => e = .returned (.bool r) ∧ Mem [] w w' [] := by
 unfold M.i_inside at hm
 refine cE Tryz.func108 ?_
 have M0 := Mem.refl [] w
 refine QA (MW 1 (NE (GD hm fun g k j => G_meet (fun a w' => Mem [] w w' [] ∧ Sat Tryz.f108.ntmps [(6, .bool g)] a) ?_ ?_)))
 ·have hm := k
  refine GR (wR 4 [(0, iv b), (2, iv c), (10, .bool (decide (b ≥ d)))] w ?_)
  rcases gx_bif hm with ⟨f, hm⟩ | ⟨f, hm⟩
  ·refine wK 10 true f (MW 5 (WN ?_))
   obtain rfl := HS hm
   exact NM fun a ha => ⟨M0.pk [], ha.s⟩
  refine wK 10 false f (MW 5 (WN ?_))
  obtain rfl := HS hm
  exact NM fun a ha => ⟨M0.pk [], ha.s⟩
 intro l m ⟨h, i⟩
 refine N_use i ?_
 have hm := j
 refine TN (G_ret ?_)
 obtain rfl := HS hm
 exact RA [.bool g] (⟨rfl, h.pk []⟩)
theorem c_i_isPriority (w : World) (a : Int) {r : Bool} (hm : M.i_isPriority a = some r) :
  Calls Tryz.prog 111 #[iv a] w fun e w' => e = .returned (.bool r) ∧ Mem [] w w' [] := by
 unfold M.i_isPriority at hm
 refine cE Tryz.func111 ?_
 have M0 := Mem.refl [] w
 refine QA (MW 1 (NA (MW 1 (GD hm fun b f hm => WD (c_i_inside w a 0 15 f) M0 fun g d => MW 1 (NC ?_)))))
 obtain rfl := HS hm
 exact RA [.bool b] (⟨rfl, d.pk []⟩)
theorem c_i_areRoutes_1 (w : World) (b : Route) (f : Int) (d : Nat) (u : w.heap[d]? = some (CE 3 [iv f])) {r : Bool} (hm : M.i_areRoutes_1 b f = some r) :
  Calls Tryz.prog 110 #[.agg #[iv b.Priority, iv b.Target], pB d 0] w fun e w' => e = .returned (.bool r) ∧ Mem [] w w' [] := by
 unfold M.i_areRoutes_1 at hm
 refine cE Tryz.func110 ?_
 have M0 := Mem.refl [] w
 refine QA (wN (CE 129 [iv b.Priority, iv b.Target]) M0 fun g i k => MW 1 (NE (GD hm fun l x v => G_meet (fun a w' => Mem [] w w' [] ∧ Sat Tryz.f110.ntmps [(3, .bool l)] a) ?_ ?_)))
 ·have hm := x
  refine GR (MW 1 (wV (iv b.Priority) i (eL false 1 0 (k.blk 0 rfl)) (GD hm fun A y hm => WD (c_i_isPriority i b.Priority y) k fun c h => wR 2 [(1, pB d 0), (2, pB g 0), (8, .bool (!A))] c ?_)))
  rcases gx_bif hm with ⟨j, hm⟩ | ⟨j, hm⟩
  ·refine wK 8 true j (MW 8 (WN ?_))
   obtain rfl := HS hm
   exact NM fun a ha => ⟨h.pk [], ha.s⟩
  refine wK 8 false j (MW 1 (wV (iv b.Target) c (eL false 1 1 (h.blk 0 rfl)) (wV (iv f) c (eL false 1 0 (h.ro u)) (MW 1 (GD hm fun B z hm => WD (c_i_inside c b.Target 0 (w64 (f - 1)) z) h fun C o => MW 3 (WN ?_))))))
  obtain rfl := HS hm
  exact NM fun a ha => ⟨o.pk [], ha.s⟩
 intro D E ⟨q, t⟩
 refine N_use t ?_
 have hm := v
 refine TN (G_ret ?_)
 obtain rfl := HS hm
 exact RA [.bool l] (⟨rfl, q.pk []⟩)
theorem c_slices_IndexFunc_159__i_areRoutes_1 (w : World) (b : List Route) (f g) (o : rdS encRoute w b f g) (m : Int) (d : Nat) (C : w.heap[d]? = some (CE 3 [iv m])) {r : Int} (hm : M.slices_IndexFunc_159__i_areRoutes_1 b m = some r) :
  Calls Tryz.prog 159 #[SL f b g, .func (.func 110) #[] #[pB d 0]] w fun e w' => e = .returned (iv r) ∧ Mem [] w w' [] := by
 unfold M.slices_IndexFunc_159__i_areRoutes_1 at hm
 refine cE Tryz.func159 ?_
 have M0 := Mem.refl [] w
 refine QA (MW 1 (NB (MW 3 (NO (GD hm fun F E q => G_meet (fun a w' => ∃ (v : Unit), F = .inl v ∧ Mem [] w w' [] ∧ Sat Tryz.f159.ntmps [] a) ?_ ?_)))))
 ·refine GB (G_while (σ := Int) (ρ := (Unit) ⊕ (Int)) (fun c a w' => Mem [] w w' [] ∧ Sat Tryz.f159.ntmps [(0, SL f b g), (1, .func (.func 110) #[] #[pB d 0]), (7, iv (b.length : Int)), (8, iv c)] a) E (fun a ha => ⟨M0.pk [], ha.s⟩) ?_)
  clear hm
  intro c K hm t H h ⟨i, A⟩
  refine G_use A (QA (MW 1 (NE (GT hm (fun k hm => ?_) fun k hm => ?_))))
  ·refine KD (MW 2 (NA (MW 3 (GD hm fun j u hm => wV (elemP f (c.toNat * 2)) h (eI (o.mem0 i) rfl u) (wV (.agg #[iv j.Priority, iv j.Target]) h (eE true 2 0 (c.toNat * 2) (o.mem0 i) u) (GD hm fun J D hm => WD (c_i_areRoutes_1 h j m d (i.ro C) D) i fun x n => NO (GT hm (fun l hm => ?_) fun l hm => ?_)))))))
   ·refine QA (MW 2 (NX ?_))
    obtain rfl := HS hm
    obtain rfl := t _ rfl
    have hm := q; simp only [Sum.elim_inr] at hm
    refine BR (N_meet_ret (TR ?_))
    obtain rfl := HS hm
    exact RA [iv c] (⟨rfl, n.pk []⟩)
   refine KC (MW 2 (WN ?_))
   cases hm
   exact N_loop fun a ha => ⟨_, rfl, n.pk [], ha.s⟩
  refine XA ?_
  obtain rfl := HS hm
  obtain rfl := t _ rfl
  exact NM fun a ha => ⟨_, rfl, i.pk [], ha.s⟩
 intro I G ⟨v, hout_, z, B⟩
 refine N_use B ?_
 subst hout_
 have hm := q; simp only [Sum.elim_inl] at hm
 refine NF (MW 1 (NC ?_))
 cases hm
 exact RA [iv (-1)] (⟨rfl, z.pk []⟩)
theorem c_slices_ContainsFunc_109__i_areRoutes_1 (w : World) (a : List Route) (d c) (j : rdS encRoute w a d c) (f : Int) (b : Nat) (k : w.heap[b]? = some (CE 3 [iv f])) {r : Bool} (hm : M.slices_ContainsFunc_109__i_areRoutes_1 a f = some r) :
  Calls Tryz.prog 109 #[SL d a c, .func (.func 110) #[] #[pB b 0]] w fun e w' => e = .returned (.bool r) ∧ Mem [] w w' [] := by
 unfold M.slices_ContainsFunc_109__i_areRoutes_1 at hm
 refine cE Tryz.func109 ?_
 have M0 := Mem.refl [] w
 refine QA (MW 1 (NA (MW 2 (GD hm fun g l hm => WD (c_slices_IndexFunc_159__i_areRoutes_1 w a d c (j.mem0 M0) f b (M0.ro k) l) M0 fun m i => MW 2 (NC ?_)))))
 cases hm
 exact RA [.bool (decide (g ≥ 0))] (⟨rfl, i.pk []⟩)
theorem c_i_areRoutes (w : World) (c : List Route) (f d) (y : rdS encRoute w c f d) (g : Int) {r : Bool} (hm : M.i_areRoutes c g = some r) :
  Calls Tryz.prog 58 #[SL f c d, iv g] w fun e w' => e = .returned (.bool r) ∧ Mem [] w w' [] := by
 unfold M.i_areRoutes at hm
 refine cE Tryz.func58 ?_
 have M0 := Mem.refl [] w
 refine QA (wN (CE 3 [iv g]) M0 fun h m n => MW 1 (NE (GD hm fun q B A => G_meet (fun a w' => Mem [] w w' [] ∧ Sat Tryz.f58.ntmps [(4, .bool q)] a) ?_ ?_)))
 ·have hm := B
  refine GR (wV (iv g) m (eL false 1 0 (n.blk 0 rfl)) (GD hm fun E C hm => WD (c_i_inside m g 1 2 C) n fun i j => wR 1 [(0, SL f c d), (3, pB h 0), (7, .bool E)] i ?_))
  rcases gx_bif hm with ⟨k, hm⟩ | ⟨k, hm⟩
  ·refine wK 7 true k (wR 5 [(0, SL f c d), (3, pB h 0), (12, .bool ((c.length : Int) == 8))] i ?_)
   rcases gx_bif hm with ⟨l, hm⟩ | ⟨l, hm⟩
   ·refine wK 12 true l (MW 2 (GD hm fun F D hm => WD (c_slices_ContainsFunc_109__i_areRoutes_1 i c f d (y.mem0 j) g h (j.blk 0 (b := h) (o := .cells ⟨[iv g]⟩ 3 (0, 0)) (by kernel_rfl)) D) j fun G v => MW 3 (WN ?_)))
    obtain rfl := HS hm
    exact NM fun a ha => ⟨v.pk [], ha.s⟩
   refine wK 12 false l (MW 6 (WN ?_))
   obtain rfl := HS hm
   exact NM fun a ha => ⟨j.pk [], ha.s⟩
  refine wK 7 false k (wR 11 [(4, .bool false)] i (WN ?_))
  obtain rfl := HS hm
  exact NM fun a ha => ⟨j.pk [], ha.s⟩
 intro H I ⟨x, z⟩
 refine N_use z ?_
 have hm := A
 refine TN (G_ret ?_)
 obtain rfl := HS hm
 exact RA [.bool q] (⟨rfl, x.pk []⟩)
theorem c_i_isMask (w : World) (a : Int) {r : Bool} (hm : M.i_isMask a = some r) :
  Calls Tryz.prog 112 #[iv a] w fun e w' => e = .returned (.bool r) ∧ Mem [] w w' [] := by
 unfold M.i_isMask at hm
 refine cE Tryz.func112 ?_
 have M0 := Mem.refl [] w
 refine QA (MW 1 (NA (MW 1 (GD hm fun b f hm => WD (c_i_inside w a 0 16 f) M0 fun g d => MW 1 (NC ?_)))))
 obtain rfl := HS hm
 exact RA [.bool b] (⟨rfl, d.pk []⟩)
theorem c_i_isIrq (w : World) (a : Int) {r : Bool} (hm : M.i_isIrq a = some r) :
  Calls Tryz.prog 144 #[iv a] w fun e w' => e = .returned (.bool r) ∧ Mem [] w w' [] := by
 unfold M.i_isIrq at hm
 refine cE Tryz.func144 ?_
 have M0 := Mem.refl [] w
 refine QA (MW 1 (NA (MW 1 (GD hm fun b f hm => WD (c_i_inside w a 0 7 f) M0 fun g d => MW 1 (NC ?_)))))
 obtain rfl := HS hm
 exact RA [.bool b] (⟨rfl, d.pk []⟩)
theorem c_i_findSlot_1 (w : World) (b : Slot) (h : Int) (d : Nat) (m : w.heap[d]? = some (CE 3 [iv h])) {r : Bool} (hm : M.i_findSlot_1 b h = some r) :
  Calls Tryz.prog 211 #[.agg #[iv b.State, iv b.Irq, iv b.Priority], pB d 0] w fun e w' => e = .returned (.bool r) ∧ Mem [] w w' [] := by
 unfold M.i_findSlot_1 at hm
 refine cE Tryz.func211 ?_
 have M0 := Mem.refl [] w
 refine QA (wN (CE 117 [iv b.State, iv b.Irq, iv b.Priority]) M0 fun g c f => MW 1 (NE (GD hm fun j o n => G_meet (fun a w' => Mem [] w w' [] ∧ Sat Tryz.f211.ntmps [(3, .bool j)] a) ?_ ?_)))
 ·have hm := o
  refine GR (MW 1 (wV (iv b.State) c (eL false 1 0 (f.blk 0 rfl)) (wR 2 [(1, pB d 0), (2, pB g 0), (7, .bool (b.State != 0))] c ?_)))
  rcases gx_bif hm with ⟨i, hm⟩ | ⟨i, hm⟩
  ·refine wK 7 true i (MW 1 (wV (iv b.Irq) c (eL false 1 1 (f.blk 0 rfl)) (wV (iv h) c (eL false 1 0 (f.ro m)) (MW 3 (WN ?_)))))
   obtain rfl := HS hm
   exact NM fun a ha => ⟨f.pk [], ha.s⟩
  refine wK 7 false i (MW 6 (WN ?_))
  obtain rfl := HS hm
  exact NM fun a ha => ⟨f.pk [], ha.s⟩
 intro q t ⟨k, l⟩
 refine N_use l ?_
 have hm := n
 refine TN (G_ret ?_)
 obtain rfl := HS hm
 exact RA [.bool j] (⟨rfl, k.pk []⟩)
theorem c_slices_IndexFunc_210__i_findSlot_1 (w : World) (b : List Slot) (f g) (o : rdS encSlot w b f g) (m : Int) (d : Nat) (C : w.heap[d]? = some (CE 3 [iv m])) {r : Int} (hm : M.slices_IndexFunc_210__i_findSlot_1 b m = some r) :
  Calls Tryz.prog 210 #[SL f b g, .func (.func 211) #[] #[pB d 0]] w fun e w' => e = .returned (iv r) ∧ Mem [] w w' [] := by
 unfold M.slices_IndexFunc_210__i_findSlot_1 at hm
 refine cE Tryz.func210 ?_
 have M0 := Mem.refl [] w
 refine QA (MW 1 (NB (MW 3 (NO (GD hm fun F E q => G_meet (fun a w' => ∃ (v : Unit), F = .inl v ∧ Mem [] w w' [] ∧ Sat Tryz.f210.ntmps [] a) ?_ ?_)))))
 ·refine GB (G_while (σ := Int) (ρ := (Unit) ⊕ (Int)) (fun c a w' => Mem [] w w' [] ∧ Sat Tryz.f210.ntmps [(0, SL f b g), (1, .func (.func 211) #[] #[pB d 0]), (7, iv (b.length : Int)), (8, iv c)] a) E (fun a ha => ⟨M0.pk [], ha.s⟩) ?_)
  clear hm
  intro c K hm t H i ⟨j, A⟩
  refine G_use A (QA (MW 1 (NE (GT hm (fun k hm => ?_) fun k hm => ?_))))
  ·refine KD (MW 2 (NA (MW 3 (GD hm fun h u hm => wV (elemP f (c.toNat * 3)) i (eI (o.mem0 j) rfl u) (wV (.agg #[iv h.State, iv h.Irq, iv h.Priority]) i (eE true 3 0 (c.toNat * 3) (o.mem0 j) u) (GD hm fun J D hm => WD (c_i_findSlot_1 i h m d (j.ro C) D) j fun x n => NO (GT hm (fun l hm => ?_) fun l hm => ?_)))))))
   ·refine QA (MW 2 (NX ?_))
    obtain rfl := HS hm
    obtain rfl := t _ rfl
    have hm := q; simp only [Sum.elim_inr] at hm
    refine BR (N_meet_ret (TR ?_))
    obtain rfl := HS hm
    exact RA [iv c] (⟨rfl, n.pk []⟩)
   refine KC (MW 2 (WN ?_))
   cases hm
   exact N_loop fun a ha => ⟨_, rfl, n.pk [], ha.s⟩
  refine XA ?_
  obtain rfl := HS hm
  obtain rfl := t _ rfl
  exact NM fun a ha => ⟨_, rfl, j.pk [], ha.s⟩
 intro I G ⟨v, hout_, z, B⟩
 refine N_use B ?_
 subst hout_
 have hm := q; simp only [Sum.elim_inl] at hm
 refine NF (MW 1 (NC ?_))
 cases hm
 exact RA [iv (-1)] (⟨rfl, z.pk []⟩)
theorem c_i_findSlot (w : World) (a : List Slot) (d c) (m : rdS encSlot w a d c) (g : Int) {r : Int} (hm : M.i_findSlot a g = some r) :
  Calls Tryz.prog 165 #[SL d a c, iv g] w fun e w' => e = .returned (iv r) ∧ Mem [] w w' [] := by
 unfold M.i_findSlot at hm
 refine cE Tryz.func165 ?_
 have M0 := Mem.refl [] w
 refine QA (wN (CE 3 [iv g]) M0 fun f i h => MW 1 (NA (MW 2 (GD hm fun j n hm => WD (c_slices_IndexFunc_210__i_findSlot_1 i a d c (m.mem0 h) g f (h.blk 0 (b := f) (o := .cells ⟨[iv g]⟩ 3 (0, 0)) (by kernel_rfl)) n) h fun q l => MW 1 (NC ?_)))))
 obtain rfl := HS hm
 exact RA [iv j] (⟨rfl, l.pk []⟩)
theorem c_i_AreSlots (w : World) (b : List Slot) (d c) (n : rdS encSlot w b d c) {r : Bool} (hm : M.i_AreSlots b = some r) :
  Calls Tryz.prog 195 #[SL d b c] w fun e w' => e = .returned (.bool r) ∧ Mem [] w w' [] := by
 unfold M.i_AreSlots at hm
 refine cE Tryz.func195 ?_
 have M0 := Mem.refl [] w
 refine QA (MW 1 (NB (MW 3 (NO (GT hm (fun v hm => ?_) fun v hm => ?_)))))
 ·refine QA (MW 1 (ND ?_))
  obtain rfl := HS hm
  exact RA [.bool false] (⟨rfl, M0.pk []⟩)
 refine KB (MW 3 (NO (GD hm fun ae ac F => G_meet (fun a w' => ∃ (K : Unit), ae = .inl K ∧ Mem [] w w' [] ∧ Sat Tryz.f195.ntmps [] a) ?_ ?_)))
 ·refine GB (G_while (σ := Int) (ρ := (Unit) ⊕ (Bool)) (fun g a w' => Mem [] w w' [] ∧ Sat Tryz.f195.ntmps [(0, SL d b c), (8, SL d b c), (9, iv (b.length : Int)), (10, iv g)] a) ac (fun a ha => ⟨M0.pk [], ha.s⟩) ?_)
  clear hm
  intro g ao hm G ah t ⟨m, T⟩
  refine G_use T (QA (MW 1 (NE (GT hm (fun x hm => ?_) fun x hm => ?_))))
  ·refine KD (MW 1 (GD hm fun f I hm => wV (elemP d (g.toNat * 3)) t (eI (n.mem0 m) rfl I) (wV (.agg #[iv f.State, iv f.Irq, iv f.Priority]) t (eE true 3 0 (g.toNat * 3) (n.mem0 m) I) (wN (CE 117 [iv 0, iv 0, iv 0]) m fun h af N => MW 1 (wS true 3 0 (.agg #[iv f.State, iv f.Irq, iv f.Priority]) 0 [iv f.State, iv f.Irq, iv f.Priority] N rfl fun i j => NB (MW 1 (wV (iv f.State) i (eL false 1 0 (j.blk 0 rfl)) (MW 1 (NO (GT hm (fun y hm => ?_) fun y hm => ?_))))))))))
   ·refine QB (wV (.agg #[iv f.State, iv f.Irq, iv f.Priority]) i (eL true 3 0 (j.blk 0 rfl)) (MW 1 (wV (.bool (!((f.State == 0) && ((f.Irq == 0) && ((f.Priority == 0) && true))))) i (E_neqAgg _ _ _ _ [iv f.State, iv f.Irq, iv f.Priority] [iv 0, iv 0, iv 0] ((f.State == 0) && ((f.Irq == 0) && ((f.Priority == 0) && true))) rfl (by kernel_rfl) (by kernel_rfl) (by kernel_rfl) (by kernel_rfl) (by kernel_rfl) (by kernel_rfl)) (NO (GT hm (fun z hm => ?_) fun z hm => ?_)))))
    ·refine QA (MW 1 (ND (TR (BR (TR (TR ?_))))))
     obtain rfl := HS hm
     obtain rfl := G _ rfl
     have hm := F; simp only [Sum.elim_inr] at hm
     refine BR (N_meet_ret (TR ?_))
     obtain rfl := HS hm
     exact RA [.bool false] (⟨rfl, j.pk []⟩)
    refine GK (TN (G_exit (TE (N_block_eq (TN (GR (wR 2 [(0, SL d b c), (8, SL d b c), (9, iv (b.length : Int)), (10, iv (w64 (g + 1)))] i (WN ?_))))))))
    cases hm
    exact N_loop fun a ha => ⟨_, rfl, j.pk [], ha.s⟩
   refine GK (TN (GS (GD hm fun ad X W => G_meet (fun a w' => Mem [] w w' [] ∧ Sat Tryz.f195.ntmps [(0, SL d b c), (8, SL d b c), (9, iv (b.length : Int)), (10, iv g), (45, .bool ad)] a) ?_ ?_)))
   ·have hm := X
    refine G_quiet (by kernel_rfl) (by kernel_rfl) j (MZ 1 (zV (iv f.State) (fun w_ M_ => (eL false 1 0 (M_.blk 0 rfl))) (GD hm fun o Y hm => ZC (.bool o) (fun w_ M_ => c_i_inside w_ f.State 1 3 Y) (MS 2 [(0, SL d b c), (3, iv g), (4, pB h 0), (8, SL d b c), (9, iv (b.length : Int)), (10, iv g), (25, .bool (!o))] ?_))))
    rcases gx_bif hm with ⟨A, hm⟩ | ⟨A, hm⟩
    ·refine zK 25 true A (MS 20 [(0, SL d b c), (8, SL d b c), (9, iv (b.length : Int)), (10, iv g), (45, .bool true)] (Z_end fun ak O => ?_))
     obtain rfl := HS hm
     exact NM fun a ha => ⟨O.pk [], ha.s⟩
    refine zK 25 false A (MZ 1 (zV (iv f.Irq) (fun w_ M_ => (eL false 1 1 (M_.blk 0 rfl))) (GD hm fun k Z hm => ZC (.bool k) (fun w_ M_ => c_i_isIrq w_ f.Irq Z) (MS 3 [(0, SL d b c), (3, iv g), (4, pB h 0), (8, SL d b c), (9, iv (b.length : Int)), (10, iv g), (31, .bool (!k))] ?_))))
    rcases gx_bif hm with ⟨B, hm⟩ | ⟨B, hm⟩
    ·refine zK 31 true B (MZ 14 (Z_end fun al P => ?_))
     obtain rfl := HS hm
     exact NM fun a ha => ⟨P.pk [], ha.s⟩
    refine zK 31 false B (MZ 1 (zV (iv f.Priority) (fun w_ M_ => (eL false 1 2 (M_.blk 0 rfl))) (GD hm fun l aa hm => ZC (.bool l) (fun w_ M_ => c_i_isPriority w_ f.Priority aa) (MS 3 [(0, SL d b c), (3, iv g), (4, pB h 0), (8, SL d b c), (9, iv (b.length : Int)), (10, iv g), (37, .bool (!l))] ?_))))
    rcases gx_bif hm with ⟨C, hm⟩ | ⟨C, hm⟩
    ·refine zK 37 true C (MZ 8 (Z_end fun am Q => ?_))
     obtain rfl := HS hm
     exact NM fun a ha => ⟨Q.pk [], ha.s⟩
    refine zK 37 false C (MZ 2 (GD hm fun u J hm => zV (SL (subP d (0 : Int).toNat c 3) u (c - (0 : Int).toNat)) (fun w_ M_ => (E_slice (E := encSlot) _ _ _ _ b.length 0 g rfl (by kernel_rfl) (Or.inl ⟨rfl, rfl⟩) (Or.inr ⟨_, rfl, by kernel_rfl⟩) (by kernel_rfl) (n.mem0 M_) rfl J)) (MZ 1 (zV (iv f.Irq) (fun w_ M_ => (eL false 1 1 (M_.blk 0 rfl))) (GD hm fun q ab hm => ZC (iv q) (fun w_ M_ => c_i_findSlot w_ u (subP d (0 : Int).toNat c 3) (c - (0 : Int).toNat) ((n.mem0 M_).sliceM J) f.Irq ab) (MZ 2 (Z_end fun an R => ?_)))))))
    obtain rfl := HS hm
    exact NM fun a ha => ⟨R.pk [], ha.s⟩
   intro ai L ⟨H, U⟩
   refine N_use U ?_
   have hm := W
   refine TN (GT hm (fun D hm => ?_) fun D hm => ?_)
   ·refine QA (MW 1 (NX ?_))
    obtain rfl := HS hm
    obtain rfl := G _ rfl
    have hm := F; simp only [Sum.elim_inr] at hm
    refine BR (N_meet_ret (TR ?_))
    obtain rfl := HS hm
    exact RA [.bool false] (⟨rfl, H.pk []⟩)
   refine KC (wR 2 [(0, SL d b c), (8, SL d b c), (9, iv (b.length : Int)), (10, iv (w64 (g + 1)))] L (WN ?_))
   cases hm
   exact N_loop fun a ha => ⟨_, rfl, H.pk [], ha.s⟩
  refine XA ?_
  obtain rfl := HS hm
  obtain rfl := G _ rfl
  exact NM fun a ha => ⟨_, rfl, m.pk [], ha.s⟩
 intro aj ag ⟨K, hout_, S, V⟩
 refine N_use V ?_
 subst hout_
 have hm := F; simp only [Sum.elim_inl] at hm
 refine NF (MW 1 (NC ?_))
 obtain rfl := HS hm
 exact RA [.bool true] (⟨rfl, S.pk []⟩)
theorem c_i_waiterIndex_1 (w : World) (a : Waiter) (c : Int) (d : Nat) (h : w.heap[d]? = some (CE 3 [iv c])) {r : Bool} (hm : M.i_waiterIndex_1 a c = some r) :
  Calls Tryz.prog 239 #[.agg #[iv a.Irq, iv a.Priority], pB d 0] w fun e w' => e = .returned (.bool r) ∧ Mem [] w w' [] := by
 unfold M.i_waiterIndex_1 at hm
 refine cE Tryz.func239 ?_
 have M0 := Mem.refl [] w
 refine QA (wN (CE 142 [iv a.Irq, iv a.Priority]) M0 fun g b f => MW 1 (NA (MW 1 (wV (iv a.Irq) b (eL false 1 0 (f.blk 0 rfl)) (wV (iv c) b (eL false 1 0 (f.ro h)) (MW 2 (NC ?_)))))))
 cases hm
 exact RA [.bool (a.Irq == c)] (⟨rfl, f.pk []⟩)
theorem c_slices_IndexFunc_166__i_waiterIndex_1 (w : World) (b : List Waiter) (f g) (o : rdS encWaiter w b f g) (m : Int) (d : Nat) (C : w.heap[d]? = some (CE 3 [iv m])) {r : Int} (hm : M.slices_IndexFunc_166__i_waiterIndex_1 b m = some r) :
  Calls Tryz.prog 166 #[SL f b g, .func (.func 239) #[] #[pB d 0]] w fun e w' => e = .returned (iv r) ∧ Mem [] w w' [] := by
 unfold M.slices_IndexFunc_166__i_waiterIndex_1 at hm
 refine cE Tryz.func166 ?_
 have M0 := Mem.refl [] w
 refine QA (MW 1 (NB (MW 3 (NO (GD hm fun F E q => G_meet (fun a w' => ∃ (v : Unit), F = .inl v ∧ Mem [] w w' [] ∧ Sat Tryz.f166.ntmps [] a) ?_ ?_)))))
 ·refine GB (G_while (σ := Int) (ρ := (Unit) ⊕ (Int)) (fun c a w' => Mem [] w w' [] ∧ Sat Tryz.f166.ntmps [(0, SL f b g), (1, .func (.func 239) #[] #[pB d 0]), (7, iv (b.length : Int)), (8, iv c)] a) E (fun a ha => ⟨M0.pk [], ha.s⟩) ?_)
  clear hm
  intro c K hm t H h ⟨i, A⟩
  refine G_use A (QA (MW 1 (NE (GT hm (fun k hm => ?_) fun k hm => ?_))))
  ·refine KD (MW 2 (NA (MW 3 (GD hm fun j u hm => wV (elemP f (c.toNat * 2)) h (eI (o.mem0 i) rfl u) (wV (.agg #[iv j.Irq, iv j.Priority]) h (eE true 2 0 (c.toNat * 2) (o.mem0 i) u) (GD hm fun J D hm => WD (c_i_waiterIndex_1 h j m d (i.ro C) D) i fun x n => NO (GT hm (fun l hm => ?_) fun l hm => ?_)))))))
   ·refine QA (MW 2 (NX ?_))
    obtain rfl := HS hm
    obtain rfl := t _ rfl
    have hm := q; simp only [Sum.elim_inr] at hm
    refine BR (N_meet_ret (TR ?_))
    obtain rfl := HS hm
    exact RA [iv c] (⟨rfl, n.pk []⟩)
   refine KC (MW 2 (WN ?_))
   cases hm
   exact N_loop fun a ha => ⟨_, rfl, n.pk [], ha.s⟩
  refine XA ?_
  obtain rfl := HS hm
  obtain rfl := t _ rfl
  exact NM fun a ha => ⟨_, rfl, i.pk [], ha.s⟩
 intro I G ⟨v, hout_, z, B⟩
 refine N_use B ?_
 subst hout_
 have hm := q; simp only [Sum.elim_inl] at hm
 refine NF (MW 1 (NC ?_))
 cases hm
 exact RA [iv (-1)] (⟨rfl, z.pk []⟩)
end Go.Proofs.YtllhajkgkghhdaaGreat
