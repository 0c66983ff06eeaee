/- Part of a proof: what its last text rests on. -/
import Derived.Test.YtllhajkgkghhdaaGreatProg
import Derived.Test.YtllhajkgkghhdaaGreatSh
import Derived.Test.YtllhajkgkghhdaaGreatdd
set_option linter.unusedVariables false
set_option maxRecDepth 100000
set_option maxHeartbeats 4000000
namespace Go.Proofs.YtllhajkgkghhdaaGreat
open Go.Gx
theorem c_i_takeSlot (w : World) (d : List Slot) (c : Option Addr) (g : Nat) (y : rdS encSlot w d c g) (u : Int) {r : (List Slot) × Int × Bool} (hm : M.i_takeSlot d u = some r) :
  Calls Tryz.prog 180 #[.slice c d.length g, iv u] w fun e w' => ∃ (L : Option Addr) (J : Nat) (N : Seg), e = .returned (.tuple #[.slice L r.1.length J, iv r.2.1, .bool r.2.2]) ∧ ownS encSlot r.1 L J N ∧ Mem [] w w' [N] := by
 unfold M.i_takeSlot at hm
 refine cE Tryz.func180 ?_
 have M0 := Mem.refl [] w
 refine QA (MW 3 (NA (wR 1 [(0, .slice c d.length g), (1, iv u), (9, .slice c d.length g)] w ?_)))
 obtain ⟨k, af, hm⟩ := gx_bind hm
 refine WD (c_i_pendingSlot w d c g (y.mem0 M0) true af) M0 fun t z => wR 1 [(0, .slice c d.length g), (1, iv u), (7, iv k)] t (NE (GS ?_))
 obtain ⟨ah, ae, ad⟩ := gx_bind hm
 refine G_meet (fun a w' => Mem [] w w' [] ∧ Sat Tryz.f180.ntmps [(0, .slice c d.length g), (7, iv k), (21, .bool ah)] a) ?_ ?_
 ·have hm := ae
  refine GR (wR 3 [(0, .slice c d.length g), (1, iv u), (7, iv k), (13, .bool (decide (k < 0)))] t ?_)
  rcases gx_bif hm with ⟨C, hm⟩ | ⟨C, hm⟩
  ·refine wK 13 true C (wR 8 [(0, .slice c d.length g), (7, iv k), (21, .bool true)] t (WN ?_))
   obtain rfl := HS hm
   exact N_meet fun a ha => ⟨z.pk [], ha.s⟩
  refine wK 13 false C (wR 2 [(0, .slice c d.length g), (1, iv u), (7, iv k), (13, .bool false), (14, .slice c d.length g), (15, iv k)] t ?_)
  obtain ⟨P, F, hm⟩ := gx_bind hm
  refine wV (elemP c (k.toNat * 3)) t (eI (y.mem0 z) rfl F) (wV (elemP c (k.toNat * 3 + 2)) t (eF 2 (k.toNat * 3) 2 (y.mem0 z) F) (wV (iv P.Priority) t (eE false 1 2 (k.toNat * 3 + 2) (y.mem0 z) F) (wR 3 [(0, .slice c d.length g), (7, iv k), (21, .bool (decide (P.Priority ≥ u)))] t (WN ?_))))
  obtain rfl := HS hm
  exact N_meet fun a ha => ⟨z.pk [], ha.s⟩
 intro ar B ⟨A, ac⟩
 refine N_use ac ?_
 have hm := ad
 refine TN ?_
 rcases gx_bif hm with ⟨D, hm⟩ | ⟨D, hm⟩
 ·refine gT D (QA (wR 3 [(4, .slice none 0 0), (5, iv 0), (6, .bool false)] B (ND ?_)))
  cases hm
  exact RA [.slice none 0 0, iv 0, .bool false] (⟨none, 0, [], rfl, ownS_nil, A.pk [100000]⟩)
 refine gF D (KA (wR 2 [(0, .slice c d.length g), (7, iv k), (22, .slice c d.length g), (23, iv k)] B ?_))
 obtain ⟨b, K, hm⟩ := gx_bind hm
 refine wV (elemP c (k.toNat * 3)) B (eI (y.mem0 A) rfl K) (wV (.agg #[iv b.State, iv b.Irq, iv b.Priority]) B (eE true 3 0 (k.toNat * 3) (y.mem0 A) K) (wN (.cells ⟨[iv 0, iv 0, iv 0]⟩ 117 (0, 0)) A fun o au T => wS true 3 0 (.agg #[iv b.State, iv b.Irq, iv b.Priority]) 0 [iv b.State, iv b.Irq, iv b.Priority] T rfl fun aj U => NA (wR 1 [(0, .slice c d.length g), (7, iv k), (8, pB o 0), (26, pB o 0)] aj (wS false 1 0 (iv 2) 0 [iv 2, iv b.Irq, iv b.Priority] U rfl fun av V => NE ?_))))
 obtain ⟨n, ag, hm⟩ := gx_bind hm
 refine G_sub [(0, .slice c d.length g), (7, iv k), (8, pB o 0), (26, pB o 0)] (by kernel_rfl) (G_dagL 7 [[], [], [], [0, 1, 2], [], [4], []] [[], [], [], [], [], [], []] [[], [], [], [], [], [], []] [[], [], [], [], [], [], [3]] [[], [], [], [], [], [], [3]] [[], [], [], [], [], [], []] (fun _ => []) (fun i => ([fun f v s => v = (.slice c d.length g : Value) ∧ s = [], fun f v s => v = (iv k : Value) ∧ s = [], fun f v s => v = (.agg #[iv 2, iv b.Irq, iv b.Priority] : Value) ∧ s = [], fun f v s => ∃ (m : Option Addr) (l : Nat), v = (.slice m n.length l : Value) ∧ ownS encSlot n m l s, fun f v s => v = (pB o 1 : Value) ∧ s = [], fun f v s => v = (iv b.Irq : Value) ∧ s = [], fun f v s => v = ((atPath (f 3) []) : Value) ∧ s = []] : List ((Nat → Value) → Value → Seg → Prop)).getD i (fun _ _ _ => False)) (fun j f v => ∃ s, (fun i => ([fun f v s => v = (.slice c d.length g : Value) ∧ s = [], fun f v s => v = (iv k : Value) ∧ s = [], fun f v s => v = (.agg #[iv 2, iv b.Irq, iv b.Priority] : Value) ∧ s = [], fun f v s => ∃ (m : Option Addr) (l : Nat), v = (.slice m n.length l : Value) ∧ ownS encSlot n m l s, fun f v s => v = (pB o 1 : Value) ∧ s = [], fun f v s => v = (iv b.Irq : Value) ∧ s = [], fun f v s => v = ((atPath (f 3) []) : Value) ∧ s = []] : List ((Nat → Value) → Value → Seg → Prop)).getD i (fun _ _ _ => False)) j f v s) [] [3, 5, 6] [3] (fun _ _ _ s h => ⟨s, h⟩) (by kernel_rfl) (by kernel_rfl) (V.preNil 7) (by kernel_rfl) (by kernel_rfl) (by kernel_rfl) (by kernel_rfl) (allOb_cons ?_ (allOb_cons ?_ (allOb_cons ?_ (allOb_cons ?_ (allOb_cons ?_ (allOb_cons ?_ (allOb_cons ?_ allOb_nil))))))) ?_)
 ·intro q x
  intro R ak W
  exact MW 1 (WN (oE (.slice c d.length g) [] ⟨by kernel_rfl, rfl⟩ W))
 ·intro q x
  intro R al X
  exact MW 1 (WN (oE (iv k) [] ⟨by kernel_rfl, rfl⟩ X))
 ·intro q x
  intro R am G
  exact wV (.agg #[iv 2, iv b.Irq, iv b.Priority]) am (eL true 3 0 (G.blk 0 rfl)) (WN (oE (.agg #[iv 2, iv b.Irq, iv b.Priority]) [] ⟨by kernel_rfl, rfl⟩ G))
 ·intro q x
  intro v0_ hb0_
  obtain ⟨rfl, _⟩ := hb0_
  intro v1_ hb1_
  obtain ⟨rfl, _⟩ := hb1_
  intro v2_ hb2_
  obtain ⟨rfl, _⟩ := hb2_
  intro R an H
  refine WC ((c_i_withSlot an d c g (y.mem0 H) k (⟨2, b.Irq, b.Priority⟩ : Slot) ag).mono ?_)
  rintro e_ aw ⟨m, l, ai, rfl, E, S⟩
  refine ⟨_, rfl, ?_⟩
  exact WN (oE (.slice m n.length l) ai ⟨m, l, rfl, E⟩ (Mem.callMid H S))
 ·intro q x
  intro R ao Y
  exact MW 1 (WN (oE (pB o 1) [] ⟨by kernel_rfl, rfl⟩ Y))
 ·intro q x
  intro v4_ hb4_
  obtain ⟨rfl, _⟩ := hb4_
  intro R ap I
  exact wV (iv b.Irq) ap (eL false 1 1 (I.blk 0 rfl)) (WN (oE (iv b.Irq) [] ⟨by kernel_rfl, rfl⟩ I))
 ·intro q x
  intro v3_ hb3_
  obtain ⟨_, m, l, rfl, _⟩ := hb3_
  intro R aq Z
  exact MW 1 (WN (oE (.slice m n.length l) [] ⟨by kernel_rfl, rfl⟩ Z))
 intro q x
 intro v3_ hb3_
 obtain ⟨m, l, rfl, E⟩ := hb3_
 intro v5_ hb5_
 obtain ⟨rfl, _⟩ := hb5_
 intro v6_ hb6_
 obtain ⟨hv6_, _⟩ := hb6_
 obtain rfl : v6_ = (.slice m n.length l : Value) := hv6_.trans (by kernel_rfl)
 intro O aa
 have ab : Mem [] w O [[(o, .cells ⟨[iv 2, iv b.Irq, iv b.Priority]⟩ 117 (0, 0))], (q 3)] := aa
 refine wR 2 [(4, .slice m n.length l), (5, iv b.Irq), (6, .bool true)] O (NC ?_)
 cases hm
 exact RA [.slice m n.length l, iv b.Irq, .bool true] (⟨m, l, (q 3), rfl, E, ab.pk [1]⟩)
theorem c_i_takeQueue (w : World) (c : Queue) (n : Option Addr) (m : Nat) (K : rdS encSlot w c.Slots n m) (x : Option Addr) (u : Nat) (Y : rdS encWaiter w c.Waiting x u) (q : Int) {r : Queue × Int × Bool} (hm : M.i_takeQueue c q = some r) :
  Calls Tryz.prog 138 #[.agg #[.slice n c.Slots.length m, .slice x c.Waiting.length u], iv q] w fun e w' => ∃ (L : Option Addr) (H : Nat) (P : Seg), ∃ (N : Option Addr) (I : Nat) (Q : Seg), e = .returned (.tuple #[.agg #[.slice L r.1.Slots.length H, .slice N r.1.Waiting.length I], iv r.2.1, .bool r.2.2]) ∧ ownS encSlot r.1.Slots L H P ∧ ownS encWaiter r.1.Waiting N I Q ∧ Mem [] w w' [P, Q] := by
 unfold M.i_takeQueue at hm
 refine cE Tryz.func138 ?_
 have M0 := Mem.refl [] w
 refine QA (wN (.cells ⟨[.slice n c.Slots.length m, .slice x c.Waiting.length u]⟩ 85 (0, 0)) M0 fun t ak U => wN (.cells ⟨[.slice none 0 0, .slice none 0 0]⟩ 85 (0, 0)) U fun d z B => MW 2 (NA (MW 1 (wV (.slice n c.Slots.length m) z (eL false 1 0 (B.blk 0 rfl)) (wR 1 [(2, pB t 0), (4, pB d 0), (13, .slice n c.Slots.length m), (14, iv q)] z ?_)))))
 obtain ⟨a, ab, hm⟩ := gx_bind hm
 refine WC ((c_i_takeSlot z c.Slots n m (K.mem0 B) q ab).mono ?_)
 rintro e_ A ⟨h, f, ad, rfl, Z, S⟩
 have y := B.call S
 refine ⟨_, rfl, ?_⟩
 refine MW 7 (NB (wR 2 [(2, pB t 0), (4, pB d 0), (7, .slice h a.1.length f), (8, iv a.2.1), (20, .bool (!a.2.2))] A (NO ?_)))
 rcases gx_bif hm with ⟨C, hm⟩ | ⟨C, hm⟩
 ·refine gT C (QA (wR 1 [(4, pB d 0), (21, .agg #[.slice none 0 0, .slice none 0 0])] A (wS true 2 0 (.agg #[.slice none 0 0, .slice none 0 0]) 1 [.slice none 0 0, .slice none 0 0] y rfl fun af D => wR 2 [(4, pB d 0), (5, iv 0), (6, .bool false)] af (ND ?_))))
  obtain rfl := HS hm
  exact N_ret [.agg #[.slice none 0 0, .slice none 0 0], iv 0, .bool false] (RX true 2 0 (D.blk 1 rfl) (rC (rC RVs_nil))) (⟨none, 0, [], none, 0, [], rfl, ownS_nil, ownS_nil, D.pk [100000, 100001]⟩)
 refine gF C (KA (wV (.agg #[.slice n c.Slots.length m, .slice x c.Waiting.length u]) A (eL true 2 0 (y.blk 0 rfl)) ?_))
 obtain ⟨i, ac, hm⟩ := gx_bind hm
 refine WC ((c_i_newQueue A c n m (K.mem0 y) x u (Y.mem0 y) ac).mono ?_)
 rintro e_ al ⟨O, J, aj, l, j, ae, rfl, ai, aa, T⟩
 have V := y.call T
 refine ⟨_, rfl, ?_⟩
 refine wN (.cells ⟨[.slice none 0 0, .slice none 0 0]⟩ 85 (0, 0)) V fun G am W => wS true 2 0 (.agg #[.slice O i.Slots.length J, .slice l i.Waiting.length j]) 5 [.slice O i.Slots.length J, .slice l i.Waiting.length j] W rfl fun ag X => NA (wR 2 [(4, pB d 0), (8, iv a.2.1), (10, pB G 0), (24, .slice h a.1.length f), (25, pB G 0)] ag (wS false 1 0 (.slice h a.1.length f) 5 [.slice h a.1.length f, .slice l i.Waiting.length j] X rfl fun R E => NA (wV (.agg #[.slice h a.1.length f, .slice l i.Waiting.length j]) R (eL true 2 0 (E.blk 5 rfl)) (wR 1 [(4, pB d 0), (26, .agg #[.slice h a.1.length f, .slice l i.Waiting.length j]), (27, iv a.2.1)] R (wS true 2 0 (.agg #[.slice h a.1.length f, .slice l i.Waiting.length j]) 1 [.slice h a.1.length f, .slice l i.Waiting.length j] E rfl fun ah F => wR 2 [(4, pB d 0), (5, iv a.2.1), (6, .bool true)] ah (NC ?_))))))
 obtain rfl := HS hm
 exact N_ret [.agg #[.slice h a.1.length f, .slice l i.Waiting.length j], iv a.2.1, .bool true] (RX true 2 0 (F.blk 1 rfl) (rC (rC RVs_nil))) (⟨h, f, ad, l, j, ae, rfl, Z, aa, F.pk [2, 4]⟩)
theorem c_i_takeIrq (w : World) (c : Interface) (B : Option Addr) (y : Nat) (av : rdS Gx.encI w c.Stack B y) (C : Option Addr) (z : Nat) (aw : rdS encSlot w c.Queue.Slots C z) (D : Option Addr) (A : Nat) (ax : rdS encWaiter w c.Queue.Waiting D A) {r : Interface × Int × Bool} (hm : M.i_takeIrq c = some r) :
  Calls Tryz.prog 80 #[.agg #[iv c.Mask, .slice B c.Stack.length y, .slice C c.Queue.Slots.length z, .slice D c.Queue.Waiting.length A]] w fun e w' => ∃ (ay : Option Addr) (aq : Nat) (a3 : Seg), ∃ (az : Option Addr) (ar : Nat) (a4 : Seg), ∃ (a0 : Option Addr) (au : Nat) (a5 : Seg), e = .returned (.tuple #[.agg #[iv r.1.Mask, .slice ay r.1.Stack.length aq, .slice az r.1.Queue.Slots.length ar, .slice a0 r.1.Queue.Waiting.length au], iv r.2.1, .bool r.2.2]) ∧ ownS Gx.encI r.1.Stack ay aq a3 ∧ ownS encSlot r.1.Queue.Slots az ar a4 ∧ ownS encWaiter r.1.Queue.Waiting a0 au a5 ∧ Mem [] w w' [a3, a4, a5] := by
 unfold M.i_takeIrq at hm
 refine cE Tryz.func80 ?_
 have M0 := Mem.refl [] w
 refine QA (wN (.cells ⟨[iv c.Mask, .slice B c.Stack.length y, .slice C c.Queue.Slots.length z, .slice D c.Queue.Waiting.length A]⟩ 87 (0, 0)) M0 fun q cz bb => wN (.cells ⟨[iv 0, .slice none 0 0, .slice none 0 0, .slice none 0 0]⟩ 87 (0, 0)) bb fun x ca bc => wR 2 [(1, pB q 0), (2, pB x 0)] ca (NE ?_))
 obtain ⟨T, b4, hm⟩ := gx_bind hm
 obtain ⟨a, b5, hm⟩ := gx_bind hm
 refine G_sub [(1, pB q 0), (2, pB x 0)] (by kernel_rfl) (G_dagL 15 [[], [0], [], [2], [], [4], [3, 5], [1, 6], [], [8], [8], [8], [], [9, 12], [10]] [[], [], [], [], [], [], [], [], [], [], [], [], [], [12], []] [[], [], [], [], [], [], [], [], [], [], [], [], [], [], []] [[], [], [], [], [], [], [], [], [7], [7], [7], [7], [], [7], []] [[], [], [], [], [], [], [], [], [7], [7], [], [], [], [7, 12], []] [[], [], [], [], [], [], [], [], [], [], [], [], [], [], []] (fun _ => []) (fun i => ([fun f v s => v = (pB q 2 : Value) ∧ s = [], fun f v s => v = (.agg #[.slice C c.Queue.Slots.length z, .slice D c.Queue.Waiting.length A] : Value) ∧ s = [], fun f v s => v = (pB q 0 : Value) ∧ s = [], fun f v s => v = (iv c.Mask : Value) ∧ s = [], fun f v s => v = (.agg #[iv c.Mask, .slice B c.Stack.length y, .slice C c.Queue.Slots.length z, .slice D c.Queue.Waiting.length A] : Value) ∧ s = [], fun f v s => v = (iv T : Value) ∧ s = [], fun f v s => v = (iv (gxMin c.Mask T) : Value) ∧ s = [], fun f v s => ∃ (m : Option Addr) (d : Nat) (K : Seg), ∃ (n : Option Addr) (l : Nat) (L : Seg), v = (.tuple #[.agg #[.slice m a.1.Slots.length d, .slice n a.1.Waiting.length l], iv a.2.1, .bool a.2.2] : Value) ∧ s = (K ++ L) ∧ ownS encSlot a.1.Slots m d K ∧ ownS encWaiter a.1.Waiting n l L, fun f v s => v = (.tuple #[.agg #[(atPath (f 7) [0, 0]), (atPath (f 7) [0, 1])], iv a.2.1, .bool a.2.2] : Value) ∧ s = [], fun f v s => v = (.agg #[(atPath (f 7) [0, 0]), (atPath (f 7) [0, 1])] : Value) ∧ s = [], fun f v s => v = (iv a.2.1 : Value) ∧ s = [], fun f v s => v = (.bool a.2.2 : Value) ∧ s = [], fun f v s => ∃ (F : Nat), v = (pB F 0 : Value) ∧ s = [(F, .cells ⟨[.slice none 0 0, .slice none 0 0]⟩ 85 (0, 0))], fun f v s => v = undef ∧ s = [((blkOf (f 12)), .cells ⟨[(atPath (f 7) [0, 0]), (atPath (f 7) [0, 1])]⟩ 85 (0, 0))], fun f v s => v = (iv a.2.1 : Value) ∧ s = []] : List ((Nat → Value) → Value → Seg → Prop)).getD i (fun _ _ _ => False)) (fun j f v => ∃ s, (fun i => ([fun f v s => v = (pB q 2 : Value) ∧ s = [], fun f v s => v = (.agg #[.slice C c.Queue.Slots.length z, .slice D c.Queue.Waiting.length A] : Value) ∧ s = [], fun f v s => v = (pB q 0 : Value) ∧ s = [], fun f v s => v = (iv c.Mask : Value) ∧ s = [], fun f v s => v = (.agg #[iv c.Mask, .slice B c.Stack.length y, .slice C c.Queue.Slots.length z, .slice D c.Queue.Waiting.length A] : Value) ∧ s = [], fun f v s => v = (iv T : Value) ∧ s = [], fun f v s => v = (iv (gxMin c.Mask T) : Value) ∧ s = [], fun f v s => ∃ (m : Option Addr) (d : Nat) (K : Seg), ∃ (n : Option Addr) (l : Nat) (L : Seg), v = (.tuple #[.agg #[.slice m a.1.Slots.length d, .slice n a.1.Waiting.length l], iv a.2.1, .bool a.2.2] : Value) ∧ s = (K ++ L) ∧ ownS encSlot a.1.Slots m d K ∧ ownS encWaiter a.1.Waiting n l L, fun f v s => v = (.tuple #[.agg #[(atPath (f 7) [0, 0]), (atPath (f 7) [0, 1])], iv a.2.1, .bool a.2.2] : Value) ∧ s = [], fun f v s => v = (.agg #[(atPath (f 7) [0, 0]), (atPath (f 7) [0, 1])] : Value) ∧ s = [], fun f v s => v = (iv a.2.1 : Value) ∧ s = [], fun f v s => v = (.bool a.2.2 : Value) ∧ s = [], fun f v s => ∃ (F : Nat), v = (pB F 0 : Value) ∧ s = [(F, .cells ⟨[.slice none 0 0, .slice none 0 0]⟩ 85 (0, 0))], fun f v s => v = undef ∧ s = [((blkOf (f 12)), .cells ⟨[(atPath (f 7) [0, 0]), (atPath (f 7) [0, 1])]⟩ 85 (0, 0))], fun f v s => v = (iv a.2.1 : Value) ∧ s = []] : List ((Nat → Value) → Value → Seg → Prop)).getD i (fun _ _ _ => False)) j f v s) [12] [7, 11, 13, 14] [7, 13] (fun _ _ _ s h => ⟨s, h⟩) (by kernel_rfl) (by kernel_rfl) (bc.preNil 15) (by kernel_rfl) (by kernel_rfl) (by kernel_rfl) (by kernel_rfl) (allOb_cons ?_ (allOb_cons ?_ (allOb_cons ?_ (allOb_cons ?_ (allOb_cons ?_ (allOb_cons ?_ (allOb_cons ?_ (allOb_cons ?_ (allOb_cons ?_ (allOb_cons ?_ (allOb_cons ?_ (allOb_cons ?_ (allOb_cons ?_ (allOb_cons ?_ (allOb_cons ?_ allOb_nil))))))))))))))) ?_)
 ·intro G J
  intro R cb bd
  exact MW 1 (WN (oE (pB q 2) [] ⟨by kernel_rfl, rfl⟩ bd))
 ·intro G J
  intro v0_ hb0_
  obtain ⟨rfl, _⟩ := hb0_
  intro R cc ah
  exact wV (.agg #[.slice C c.Queue.Slots.length z, .slice D c.Queue.Waiting.length A]) cc (eL true 2 2 (ah.blk 0 rfl)) (WN (oE (.agg #[.slice C c.Queue.Slots.length z, .slice D c.Queue.Waiting.length A]) [] ⟨by kernel_rfl, rfl⟩ ah))
 ·intro G J
  intro R cd be
  exact MW 1 (WN (oE (pB q 0) [] ⟨by kernel_rfl, rfl⟩ be))
 ·intro G J
  intro v2_ hb2_
  obtain ⟨rfl, _⟩ := hb2_
  intro R ce ai
  exact wV (iv c.Mask) ce (eL false 1 0 (ai.blk 0 rfl)) (WN (oE (iv c.Mask) [] ⟨by kernel_rfl, rfl⟩ ai))
 ·intro G J
  intro R cf aj
  exact wV (.agg #[iv c.Mask, .slice B c.Stack.length y, .slice C c.Queue.Slots.length z, .slice D c.Queue.Waiting.length A]) cf (eL true 4 0 (aj.blk 0 rfl)) (WN (oE (.agg #[iv c.Mask, .slice B c.Stack.length y, .slice C c.Queue.Slots.length z, .slice D c.Queue.Waiting.length A]) [] ⟨by kernel_rfl, rfl⟩ aj))
 ·intro G J
  intro v4_ hb4_
  obtain ⟨rfl, _⟩ := hb4_
  intro R cg X
  refine WC ((c_i_runningPriority cg c B y (av.mem0 X) C z (aw.mem0 X) D A (ax.mem0 X) b4).mono ?_)
  rintro e_ c0 ⟨rfl, a8⟩
  refine ⟨_, rfl, ?_⟩
  exact WN (oE (iv T) [] ⟨rfl, rfl⟩ (X.call0 a8))
 ·intro G J
  intro v3_ hb3_
  obtain ⟨rfl, _⟩ := hb3_
  intro v5_ hb5_
  obtain ⟨rfl, _⟩ := hb5_
  intro R ch bf
  exact MW 1 (WN (oE (iv (gxMin c.Mask T)) [] ⟨by kernel_rfl, rfl⟩ bf))
 ·intro G J
  intro v1_ hb1_
  obtain ⟨rfl, _⟩ := hb1_
  intro v6_ hb6_
  obtain ⟨rfl, _⟩ := hb6_
  intro R ci aa
  refine WC ((c_i_takeQueue ci c.Queue C z (aw.mem0 aa) D A (ax.mem0 aa) (gxMin c.Mask T) b5).mono ?_)
  rintro e_ c1 ⟨m, d, K, n, l, L, rfl, ad, ae, a9⟩
  refine ⟨_, rfl, ?_⟩
  exact WN (oE (.tuple #[.agg #[.slice m a.1.Slots.length d, .slice n a.1.Waiting.length l], iv a.2.1, .bool a.2.2]) (K ++ L) ⟨m, d, K, n, l, L, rfl, rfl, ad, ae⟩ (Mem.callMid aa (a9.permF (by simp))))
 ·intro G J
  intro v7_ hb7_
  obtain ⟨_, m, d, _, n, l, _, rfl, _⟩ := hb7_
  intro R cj bg
  exact MW 1 (WN (oE (.tuple #[.agg #[.slice m a.1.Slots.length d, .slice n a.1.Waiting.length l], iv a.2.1, .bool a.2.2]) [] ⟨by kernel_rfl, rfl⟩ bg))
 ·intro G J
  intro v7_ hb7_
  obtain ⟨_, m, d, _, n, l, _, rfl, _⟩ := hb7_
  intro v8_ hb8_
  obtain ⟨hv8_, _⟩ := hb8_
  obtain rfl : v8_ = (.tuple #[.agg #[.slice m a.1.Slots.length d, .slice n a.1.Waiting.length l], iv a.2.1, .bool a.2.2] : Value) := hv8_.trans (by kernel_rfl)
  intro R ck bh
  exact MW 1 (WN (oE (.agg #[.slice m a.1.Slots.length d, .slice n a.1.Waiting.length l]) [] ⟨by kernel_rfl, rfl⟩ bh))
 ·intro G J
  intro v7_ hb7_
  obtain ⟨_, m, d, _, n, l, _, rfl, _⟩ := hb7_
  intro v8_ hb8_
  obtain ⟨hv8_, _⟩ := hb8_
  obtain rfl : v8_ = (.tuple #[.agg #[.slice m a.1.Slots.length d, .slice n a.1.Waiting.length l], iv a.2.1, .bool a.2.2] : Value) := hv8_.trans (by kernel_rfl)
  intro R cl bi
  exact MW 1 (WN (oE (iv a.2.1) [] ⟨by kernel_rfl, rfl⟩ bi))
 ·intro G J
  intro v7_ hb7_
  obtain ⟨_, m, d, _, n, l, _, rfl, _⟩ := hb7_
  intro v8_ hb8_
  obtain ⟨hv8_, _⟩ := hb8_
  obtain rfl : v8_ = (.tuple #[.agg #[.slice m a.1.Slots.length d, .slice n a.1.Waiting.length l], iv a.2.1, .bool a.2.2] : Value) := hv8_.trans (by kernel_rfl)
  intro R cm bj
  exact MW 1 (WN (oE (.bool a.2.2) [] ⟨by kernel_rfl, rfl⟩ bj))
 ·intro G J
  intro R c2 bk
  exact wN (.cells ⟨[.slice none 0 0, .slice none 0 0]⟩ 85 (0, 0)) bk fun F c3 bl => WN (oE (pB F 0) [(F, .cells ⟨[.slice none 0 0, .slice none 0 0]⟩ 85 (0, 0))] ⟨F, rfl, rfl⟩ (Mem.mid bl))
 ·intro G J
  intro v7_ hb7_
  obtain ⟨_, m, d, _, n, l, _, rfl, _⟩ := hb7_
  intro v9_ hb9_
  obtain ⟨hv9_, _⟩ := hb9_
  obtain rfl : v9_ = (.agg #[.slice m a.1.Slots.length d, .slice n a.1.Waiting.length l] : Value) := hv9_.trans (by kernel_rfl)
  intro v12_ hb12_
  obtain ⟨F, rfl, hs12_⟩ := hb12_
  intro R a6 bm
  have Y : Mem [] w a6 ([[(q, .cells ⟨[iv c.Mask, .slice B c.Stack.length y, .slice C c.Queue.Slots.length z, .slice D c.Queue.Waiting.length A]⟩ 87 (0, 0))], [(x, .cells ⟨[iv 0, .slice none 0 0, .slice none 0 0, .slice none 0 0]⟩ 87 (0, 0))]] ++ ([[]] ++ ([(G 12)] ++ ([] ++ R)))) := bm
  rw [hs12_] at Y
  replace Y : Mem [] w a6 ([[(q, .cells ⟨[iv c.Mask, .slice B c.Stack.length y, .slice C c.Queue.Slots.length z, .slice D c.Queue.Waiting.length A]⟩ 87 (0, 0))], [(x, .cells ⟨[iv 0, .slice none 0 0, .slice none 0 0, .slice none 0 0]⟩ 87 (0, 0))]] ++ ([[]] ++ ([[(F, .cells ⟨[.slice none 0 0, .slice none 0 0]⟩ 85 (0, 0))]] ++ ([] ++ R)))) := Y.permF (by simp)
  exact wS true 2 0 (.agg #[.slice m a.1.Slots.length d, .slice n a.1.Waiting.length l]) 3 [.slice m a.1.Slots.length d, .slice n a.1.Waiting.length l] Y rfl fun c4 bn => WN (ob_none [(F, .cells ⟨[.slice m a.1.Slots.length d, .slice n a.1.Waiting.length l]⟩ 85 (0, 0))] rfl ⟨rfl, by kernel_rfl⟩ (Mem.takeOver bn))
 ·intro G J
  intro v10_ hb10_
  obtain ⟨rfl, _⟩ := hb10_
  intro R cn bo
  exact MW 1 (WN (oE (iv a.2.1) [] ⟨by kernel_rfl, rfl⟩ bo))
 intro G J
 intro v12_ hb12_
 obtain ⟨_, F, rfl, hs12_⟩ := hb12_
 intro v7_ hb7_
 obtain ⟨m, d, K, n, l, L, rfl, hs7_, ad, ae⟩ := hb7_
 intro v11_ hb11_
 obtain ⟨rfl, _⟩ := hb11_
 intro v13_ hb13_
 obtain ⟨rfl, hs13_⟩ := hb13_
 replace hs13_ := hs13_.trans (show _ = [(F, .cells ⟨[.slice m a.1.Slots.length d, .slice n a.1.Waiting.length l]⟩ 85 (0, 0))] by kernel_rfl)
 intro v14_ hb14_
 obtain ⟨rfl, _⟩ := hb14_
 intro V bp
 have U : Mem [] w V [[(q, .cells ⟨[iv c.Mask, .slice B c.Stack.length y, .slice C c.Queue.Slots.length z, .slice D c.Queue.Waiting.length A]⟩ 87 (0, 0))], [(x, .cells ⟨[iv 0, .slice none 0 0, .slice none 0 0, .slice none 0 0]⟩ 87 (0, 0))], (G 7), (G 13)] := bp
 rw [hs7_] at U
 rw [hs13_] at U
 replace U : Mem [] w V [[(q, .cells ⟨[iv c.Mask, .slice B c.Stack.length y, .slice C c.Queue.Slots.length z, .slice D c.Queue.Waiting.length A]⟩ 87 (0, 0))], [(x, .cells ⟨[iv 0, .slice none 0 0, .slice none 0 0, .slice none 0 0]⟩ 87 (0, 0))], K, L, [(F, .cells ⟨[.slice m a.1.Slots.length d, .slice n a.1.Waiting.length l]⟩ 85 (0, 0))]] := U.permF (by simp)
 refine MW 1 (NB (wR 2 [(1, pB q 0), (2, pB x 0), (5, pB F 0), (6, iv a.2.1), (21, .bool (!a.2.2))] V (NO ?_)))
 rcases gx_bif hm with ⟨ac, hm⟩ | ⟨ac, hm⟩
 ·refine gT ac (QA (wR 1 [(2, pB x 0), (22, .agg #[iv 0, .slice none 0 0, .slice none 0 0, .slice none 0 0])] V (wS true 4 0 (.agg #[iv 0, .slice none 0 0, .slice none 0 0, .slice none 0 0]) 1 [iv 0, .slice none 0 0, .slice none 0 0, .slice none 0 0] U rfl fun co ak => wR 2 [(2, pB x 0), (3, iv 0), (4, .bool false)] co (ND ?_))))
  obtain rfl := HS hm
  exact N_ret [.agg #[iv 0, .slice none 0 0, .slice none 0 0, .slice none 0 0], iv 0, .bool false] (RX true 4 0 (ak.blk 1 rfl) (rC (rC RVs_nil))) (⟨none, 0, [], none, 0, [], none, 0, [], rfl, ownS_nil, ownS_nil, ownS_nil, ak.pk [100000, 100001, 100002]⟩)
 refine gF ac (GK (TN (GS ?_)))
 obtain ⟨W, b6, hm⟩ := gx_bind hm
 obtain ⟨H, b3, hm⟩ := gx_bind hm
 have bq : Mem [] w V ([[(q, .cells ⟨[iv c.Mask, .slice B c.Stack.length y, .slice C c.Queue.Slots.length z, .slice D c.Queue.Waiting.length A]⟩ 87 (0, 0))], K, L, [(F, .cells ⟨[.slice m a.1.Slots.length d, .slice n a.1.Waiting.length l]⟩ 85 (0, 0))]] ++ (List.range 12).map (fun i => ([[], [], [], [], [], [], [], [], [], [], [], [(x, .cells ⟨[iv 0, .slice none 0 0, .slice none 0 0, .slice none 0 0]⟩ 87 (0, 0))]] : List Seg).getD i [])) := U.pk [0, 2, 3, 4, 300000, 300001, 300002, 300003, 300004, 300005, 300006, 300007, 300008, 300009, 300010, 1]
 refine G_sub [(1, pB q 0), (2, pB x 0), (5, pB F 0), (6, iv a.2.1), (21, .bool (!a.2.2))] (by kernel_rfl) (G_dagL 12 [[], [0], [], [2], [3], [], [5], [4, 6], [], [1, 8], [], [9]] [[], [], [], [], [], [], [], [4], [], [], [], []] [[], [], [], [], [], [], [], [6], [], [], [], []] [[], [], [], [], [], [], [], [], [], [7], [], [7]] [[], [], [], [], [], [], [], [], [], [7], [], [7]] [[], [], [], [], [], [], [], [], [], [], [], []] (fun i => ([[], [], [], [], [], [], [], [], [], [], [], [(x, .cells ⟨[iv 0, .slice none 0 0, .slice none 0 0, .slice none 0 0]⟩ 87 (0, 0))]] : List Seg).getD i []) (fun i => ([fun f v s => v = (pB q 0 : Value) ∧ s = [], fun f v s => v = (iv c.Mask : Value) ∧ s = [], fun f v s => v = (pB q 1 : Value) ∧ s = [], fun f v s => v = (.slice B c.Stack.length y : Value) ∧ s = [], fun f v s => ∃ (S : Option Addr) (Q : Nat), v = (.slice S W.length Q : Value) ∧ ownS Gx.encI W S Q s, fun f v s => v = (iv a.2.1 : Value) ∧ s = [], fun f v s => ∃ (P : Option Addr) (O : Nat), v = (.slice P [a.2.1].length O : Value) ∧ ownS Gx.encI [a.2.1] P O s, fun f v s => ∃ (u : Option Addr) (t : Nat), v = (.slice u H.length t : Value) ∧ ownS Gx.encI H u t s, fun f v s => v = (.agg #[.slice m a.1.Slots.length d, .slice n a.1.Waiting.length l] : Value) ∧ s = [], fun f v s => v = (.agg #[iv c.Mask, (atPath (f 7) []), .slice m a.1.Slots.length d, .slice n a.1.Waiting.length l] : Value) ∧ s = [], fun f v s => v = (iv a.2.1 : Value) ∧ s = [], fun f v s => v = undef ∧ s = [(x, .cells ⟨[iv c.Mask, (atPath (f 7) []), .slice m a.1.Slots.length d, .slice n a.1.Waiting.length l]⟩ 87 (0, 0))]] : List ((Nat → Value) → Value → Seg → Prop)).getD i (fun _ _ _ => False)) (fun j f v => ∃ s, (fun i => ([fun f v s => v = (pB q 0 : Value) ∧ s = [], fun f v s => v = (iv c.Mask : Value) ∧ s = [], fun f v s => v = (pB q 1 : Value) ∧ s = [], fun f v s => v = (.slice B c.Stack.length y : Value) ∧ s = [], fun f v s => ∃ (S : Option Addr) (Q : Nat), v = (.slice S W.length Q : Value) ∧ ownS Gx.encI W S Q s, fun f v s => v = (iv a.2.1 : Value) ∧ s = [], fun f v s => ∃ (P : Option Addr) (O : Nat), v = (.slice P [a.2.1].length O : Value) ∧ ownS Gx.encI [a.2.1] P O s, fun f v s => ∃ (u : Option Addr) (t : Nat), v = (.slice u H.length t : Value) ∧ ownS Gx.encI H u t s, fun f v s => v = (.agg #[.slice m a.1.Slots.length d, .slice n a.1.Waiting.length l] : Value) ∧ s = [], fun f v s => v = (.agg #[iv c.Mask, (atPath (f 7) []), .slice m a.1.Slots.length d, .slice n a.1.Waiting.length l] : Value) ∧ s = [], fun f v s => v = (iv a.2.1 : Value) ∧ s = [], fun f v s => v = undef ∧ s = [(x, .cells ⟨[iv c.Mask, (atPath (f 7) []), .slice m a.1.Slots.length d, .slice n a.1.Waiting.length l]⟩ 87 (0, 0))]] : List ((Nat → Value) → Value → Seg → Prop)).getD i (fun _ _ _ => False)) j f v s) [] [6, 7, 10, 11] [6, 7, 11] (fun _ _ _ s h => ⟨s, h⟩) (by kernel_rfl) (by kernel_rfl) bq (by kernel_rfl) (by kernel_rfl) (by kernel_rfl) (by kernel_rfl) (allOb_cons ?_ (allOb_cons ?_ (allOb_cons ?_ (allOb_cons ?_ (allOb_cons ?_ (allOb_cons ?_ (allOb_cons ?_ (allOb_cons ?_ (allOb_cons ?_ (allOb_cons ?_ (allOb_cons ?_ (allOb_cons ?_ allOb_nil)))))))))))) ?_)
 ·intro I N
  intro R cp br
  exact MW 1 (WN (oE (pB q 0) [] ⟨by kernel_rfl, rfl⟩ br))
 ·intro I N
  intro v0_ hb0_
  obtain ⟨rfl, _⟩ := hb0_
  intro R cq al
  exact wV (iv c.Mask) cq (eL false 1 0 (al.blk 0 rfl)) (WN (oE (iv c.Mask) [] ⟨by kernel_rfl, rfl⟩ al))
 ·intro I N
  intro R cr bs
  exact MW 1 (WN (oE (pB q 1) [] ⟨by kernel_rfl, rfl⟩ bs))
 ·intro I N
  intro v2_ hb2_
  obtain ⟨rfl, _⟩ := hb2_
  intro R ct am
  exact wV (.slice B c.Stack.length y) ct (eL false 1 1 (am.blk 0 rfl)) (WN (oE (.slice B c.Stack.length y) [] ⟨by kernel_rfl, rfl⟩ am))
 ·intro I N
  intro v3_ hb3_
  obtain ⟨rfl, _⟩ := hb3_
  intro R cu an
  refine WC ((c_i_copyInts cu c.Stack B y (av.mem0 an) b6).mono ?_)
  rintro e_ c5 ⟨S, Q, b7, rfl, af, ba⟩
  refine ⟨_, rfl, ?_⟩
  exact WN (oE (.slice S W.length Q) b7 ⟨S, Q, rfl, af⟩ (Mem.callMid an ba))
 ·intro I N
  intro R cv bt
  exact MW 1 (WN (oE (iv a.2.1) [] ⟨by kernel_rfl, rfl⟩ bt))
 ·intro I N
  intro v5_ hb5_
  obtain ⟨rfl, _⟩ := hb5_
  intro R c6 bu
  exact wL (E := Gx.encI) [a.2.1] 1 [iv a.2.1] 3 bu fun P O b8 c7 Z bv => WN (oE (.slice P [a.2.1].length O) b8 ⟨P, O, rfl, Z⟩ (Mem.mid bv))
 ·intro I N
  intro v4_ hb4_
  obtain ⟨S, Q, rfl, af⟩ := hb4_
  intro v6_ hb6_
  obtain ⟨P, O, rfl, Z⟩ := hb6_
  intro R c8 ao
  exact wA 8 [iv 0] 5 ao af (Z.r ao 6) b3 fun u t b9 c9 ag bw => WN (oE (.slice u H.length t) b9 ⟨u, t, rfl, ag⟩ (Mem.takeOver bw))
 ·intro I N
  intro R cw ap
  exact wV (.agg #[.slice m a.1.Slots.length d, .slice n a.1.Waiting.length l]) cw (eL true 2 0 (ap.blk 3 rfl)) (WN (oE (.agg #[.slice m a.1.Slots.length d, .slice n a.1.Waiting.length l]) [] ⟨by kernel_rfl, rfl⟩ ap))
 ·intro I N
  intro v7_ hb7_
  obtain ⟨_, u, t, rfl, _⟩ := hb7_
  intro v1_ hb1_
  obtain ⟨rfl, _⟩ := hb1_
  intro v8_ hb8_
  obtain ⟨rfl, _⟩ := hb8_
  intro R cx bx
  exact MW 1 (WN (oE (.agg #[iv c.Mask, .slice u H.length t, .slice m a.1.Slots.length d, .slice n a.1.Waiting.length l]) [] ⟨by kernel_rfl, rfl⟩ bx))
 ·intro I N
  intro R cy bz
  exact MW 1 (WN (oE (iv a.2.1) [] ⟨by kernel_rfl, rfl⟩ bz))
 ·intro I N
  intro v7_ hb7_
  obtain ⟨_, u, t, rfl, _⟩ := hb7_
  intro v9_ hb9_
  obtain ⟨hv9_, _⟩ := hb9_
  obtain rfl : v9_ = (.agg #[iv c.Mask, .slice u H.length t, .slice m a.1.Slots.length d, .slice n a.1.Waiting.length l] : Value) := hv9_.trans (by kernel_rfl)
  intro R da b0
  exact wS true 4 0 (.agg #[iv c.Mask, .slice u H.length t, .slice m a.1.Slots.length d, .slice n a.1.Waiting.length l]) 4 [iv c.Mask, .slice u H.length t, .slice m a.1.Slots.length d, .slice n a.1.Waiting.length l] b0 rfl fun db b1 => WN (ob_none [(x, .cells ⟨[iv c.Mask, .slice u H.length t, .slice m a.1.Slots.length d, .slice n a.1.Waiting.length l]⟩ 87 (0, 0))] rfl ⟨rfl, by kernel_rfl⟩ b1)
 intro I N
 intro v6_ hb6_
 obtain ⟨P, O, rfl, Z⟩ := hb6_
 intro v7_ hb7_
 obtain ⟨u, t, rfl, ag⟩ := hb7_
 intro v10_ hb10_
 obtain ⟨rfl, _⟩ := hb10_
 intro v11_ hb11_
 obtain ⟨rfl, hs11_⟩ := hb11_
 replace hs11_ := hs11_.trans (show _ = [(x, .cells ⟨[iv c.Mask, .slice u H.length t, .slice m a.1.Slots.length d, .slice n a.1.Waiting.length l]⟩ 87 (0, 0))] by kernel_rfl)
 intro a7 b2
 have ab : Mem [] w a7 [[(q, .cells ⟨[iv c.Mask, .slice B c.Stack.length y, .slice C c.Queue.Slots.length z, .slice D c.Queue.Waiting.length A]⟩ 87 (0, 0))], K, L, [(F, .cells ⟨[.slice m a.1.Slots.length d, .slice n a.1.Waiting.length l]⟩ 85 (0, 0))], (I 6), (I 7), (I 11)] := b2
 rw [hs11_] at ab
 refine wR 2 [(2, pB x 0), (3, iv a.2.1), (4, .bool true)] a7 (NC ?_)
 obtain rfl := HS hm
 exact N_ret [.agg #[iv c.Mask, .slice u H.length t, .slice m a.1.Slots.length d, .slice n a.1.Waiting.length l], iv a.2.1, .bool true] (RX true 4 0 (ab.blk 6 rfl) (rC (rC RVs_nil))) (⟨u, t, (I 7), m, d, K, n, l, L, rfl, ag, ad, ae, ab.pk [5, 1, 2]⟩)
theorem c_i_endSlot (w : World) (d : List Slot) (b : Option Addr) (f : Nat) (i : rdS encSlot w d b f) (g : Int) {r : (List Slot) × Bool} (hm : M.i_endSlot d g = some r) :
  Calls Tryz.prog 181 #[.slice b d.length f, iv g] w fun e w' => ∃ (G : Option Addr) (E : Nat) (I : Seg), e = .returned (.tuple #[.slice G r.1.length E, .bool r.2]) ∧ ownS encSlot r.1 G E I ∧ Mem [] w w' [I] := by
 unfold M.i_endSlot at hm
 refine cE Tryz.func181 ?_
 have M0 := Mem.refl [] w
 refine QA (MW 2 (NA (wR 2 [(0, .slice b d.length f), (1, iv g), (8, .slice b d.length f), (9, iv g)] w ?_)))
 obtain ⟨c, aa, hm⟩ := gx_bind hm
 refine WD (c_i_findSlot w d b f (i.mem0 M0) g aa) M0 fun m o => wR 1 [(0, .slice b d.length f), (1, iv g), (6, iv c)] m (NE (GS ?_))
 obtain ⟨ad, X, V⟩ := gx_bind hm
 refine G_meet (fun a w' => Mem [] w w' [] ∧ Sat Tryz.f181.ntmps [(0, .slice b d.length f), (1, iv g), (6, iv c), (20, .bool ad)] a) ?_ ?_
 ·have hm := X
  refine GR (wR 3 [(0, .slice b d.length f), (1, iv g), (6, iv c), (13, .bool (decide (c < 0)))] m ?_)
  rcases gx_bif hm with ⟨v, hm⟩ | ⟨v, hm⟩
  ·refine wK 13 true v (wR 7 [(0, .slice b d.length f), (1, iv g), (6, iv c), (20, .bool true)] m (WN ?_))
   obtain rfl := HS hm
   exact N_meet fun a ha => ⟨o.pk [], ha.s⟩
  refine wK 13 false v (wR 2 [(0, .slice b d.length f), (1, iv g), (6, iv c), (13, .bool false), (14, .slice b d.length f), (15, iv c)] m ?_)
  obtain ⟨n, F, hm⟩ := gx_bind hm
  refine wV (elemP b (c.toNat * 3)) m (eI (i.mem0 o) rfl F) (wV (.agg #[iv n.State, iv n.Irq, iv n.Priority]) m (eE true 3 0 (c.toNat * 3) (i.mem0 o) F) ?_)
  obtain ⟨ae, ab, hm⟩ := gx_bind hm
  refine WD (c_i_isActive m n ab) o fun ag P => wR 2 [(0, .slice b d.length f), (1, iv g), (6, iv c), (20, .bool (!ae))] ag (WN ?_)
  obtain rfl := HS hm
  exact N_meet fun a ha => ⟨P.pk [], ha.s⟩
 intro ai J ⟨D, T⟩
 refine N_use T ?_
 have hm := V
 refine TN ?_
 rcases gx_bif hm with ⟨x, hm⟩ | ⟨x, hm⟩
 ·refine gT x (QA (wR 2 [(4, .slice none 0 0), (5, .bool false)] J (ND ?_)))
  cases hm
  exact RA [.slice none 0 0, .bool false] (⟨none, 0, [], rfl, ownS_nil, D.pk [100000]⟩)
 refine gF x (KA (wR 1 [(0, .slice b d.length f), (1, iv g), (6, iv c), (21, .agg #[iv 0, iv 0, iv 0])] J (wN (.cells ⟨[iv 0, iv 0, iv 0]⟩ 117 (0, 0)) D fun l ak Q => wS true 3 0 (.agg #[iv 0, iv 0, iv 0]) 0 [iv 0, iv 0, iv 0] Q rfl fun j k => NB (wR 2 [(0, .slice b d.length f), (1, iv g), (6, iv c), (7, pB l 0), (22, .slice b d.length f), (23, iv c)] j ?_))))
 obtain ⟨K, z, hm⟩ := gx_bind hm
 refine wV (elemP b (c.toNat * 3)) j (eI (i.mem0 k) rfl z) (wV (elemP b (c.toNat * 3 + 0)) j (eF 0 (c.toNat * 3) 0 (i.mem0 k) z) (wV (iv K.State) j (eE false 1 0 (c.toNat * 3 + 0) (i.mem0 k) z) (wR 1 [(0, .slice b d.length f), (1, iv g), (6, iv c), (7, pB l 0), (27, .bool (K.State == 3))] j (NO ?_))))
 obtain ⟨h, Y, W⟩ := gx_bind hm
 refine G_meet (fun a w' => Mem [] w w' [[(l, .cells ⟨[iv h.1, iv h.2.1, iv h.2.2]⟩ 117 (0, 0))]] ∧ Sat Tryz.f181.ntmps [(0, .slice b d.length f), (6, iv c), (7, pB l 0)] a) ?_ ?_
 ·have hm := Y
  rcases gx_bif hm with ⟨y, hm⟩ | ⟨y, hm⟩
  ·refine gT y (GR (wR 3 [(0, .slice b d.length f), (6, iv c), (7, pB l 0), (28, iv g), (29, .slice b d.length f), (30, iv c)] j ?_))
   obtain ⟨q, A, hm⟩ := gx_bind hm
   refine wV (elemP b (c.toNat * 3)) j (eI (i.mem0 k) rfl A) (wV (elemP b (c.toNat * 3 + 2)) j (eF 2 (c.toNat * 3) 2 (i.mem0 k) A) (wV (iv q.Priority) j (eE false 1 2 (c.toNat * 3 + 2) (i.mem0 k) A) (wR 1 [(0, .slice b d.length f), (6, iv c), (7, pB l 0), (34, .agg #[iv 1, iv g, iv q.Priority])] j (wS true 3 0 (.agg #[iv 1, iv g, iv q.Priority]) 0 [iv 1, iv g, iv q.Priority] k rfl fun al R => WN ?_))))
   obtain rfl := HS hm
   exact N_meet fun a ha => ⟨R.pk [0], ha.s⟩
  refine gF y (GK ?_)
  obtain rfl := HS hm
  exact N_meet fun a ha => ⟨k.pk [0], ha.s⟩
 intro aj C ⟨t, U⟩
 refine N_use U ?_
 have hm := W
 refine NF (wR 2 [(7, pB l 0), (35, .slice b d.length f), (36, iv c)] C (wV (.agg #[iv h.1, iv h.2.1, iv h.2.2]) C (eL true 3 0 (t.blk 0 rfl)) ?_))
 obtain ⟨H, ac, hm⟩ := gx_bind hm
 refine WC ((c_i_withSlot C d b f (i.mem0 t) c (⟨h.1, h.2.1, h.2.2⟩ : Slot) ac).mono ?_)
 rintro e_ ah ⟨B, u, af, rfl, Z, O⟩
 have S := t.call O
 refine ⟨_, rfl, ?_⟩
 refine wR 2 [(4, .slice B H.length u), (5, .bool true)] ah (NC ?_)
 cases hm
 exact RA [.slice B H.length u, .bool true] (⟨B, u, af, rfl, Z, S.pk [1]⟩)
theorem c_i_endQueue (w : World) (a : Queue) (n : Option Addr) (i : Nat) (S : rdS encSlot w a.Slots n i) (q : Option Addr) (j : Nat) (T : rdS encWaiter w a.Waiting q j) (y : Int) {r : Queue × Bool} (hm : M.i_endQueue a y = some r) :
  Calls Tryz.prog 140 #[.agg #[.slice n a.Slots.length i, .slice q a.Waiting.length j], iv y] w fun e w' => ∃ (J : Option Addr) (H : Nat) (L : Seg), ∃ (K : Option Addr) (I : Nat) (N : Seg), e = .returned (.tuple #[.agg #[.slice J r.1.Slots.length H, .slice K r.1.Waiting.length I], .bool r.2]) ∧ ownS encSlot r.1.Slots J H L ∧ ownS encWaiter r.1.Waiting K I N ∧ Mem [] w w' [L, N] := by
 unfold M.i_endQueue at hm
 refine cE Tryz.func140 ?_
 have M0 := Mem.refl [] w
 refine QA (wN (.cells ⟨[.slice n a.Slots.length i, .slice q a.Waiting.length j]⟩ 85 (0, 0)) M0 fun h ae Q => wN (.cells ⟨[.slice none 0 0, .slice none 0 0]⟩ 85 (0, 0)) Q fun c C D => MW 1 (NA (MW 1 (wV (.slice n a.Slots.length i) C (eL false 1 0 (D.blk 0 rfl)) (wR 1 [(2, pB h 0), (4, pB c 0), (10, .slice n a.Slots.length i), (11, iv y)] C ?_)))))
 obtain ⟨f, X, hm⟩ := gx_bind hm
 refine WC ((c_i_endSlot C a.Slots n i (S.mem0 D) y X).mono ?_)
 rintro e_ x ⟨A, z, ad, rfl, U, O⟩
 have B := D.call O
 refine ⟨_, rfl, ?_⟩
 refine MW 5 (NB (wR 2 [(2, pB h 0), (4, pB c 0), (6, .slice A f.1.length z), (16, .bool (!f.2))] x (NO ?_)))
 rcases gx_bif hm with ⟨E, hm⟩ | ⟨E, hm⟩
 ·refine gT E (QA (wR 1 [(4, pB c 0), (17, .agg #[.slice none 0 0, .slice none 0 0])] x (wS true 2 0 (.agg #[.slice none 0 0, .slice none 0 0]) 1 [.slice none 0 0, .slice none 0 0] B rfl fun ab F => wR 1 [(4, pB c 0), (5, .bool false)] ab (ND ?_))))
  obtain rfl := HS hm
  exact N_ret [.agg #[.slice none 0 0, .slice none 0 0], .bool false] (RX true 2 0 (F.blk 1 rfl) (rC RVs_nil)) (⟨none, 0, [], none, 0, [], rfl, ownS_nil, ownS_nil, F.pk [100000, 100001]⟩)
 refine gF E (KA (MW 2 (wV (.slice q a.Waiting.length j) x (eL false 1 1 (B.blk 0 rfl)) (wR 1 [(4, pB c 0), (21, .agg #[.slice A f.1.length z, .slice q a.Waiting.length j])] x ?_))))
 obtain ⟨d, Y, hm⟩ := gx_bind hm
 refine WC ((c_i_settled x (⟨f.1, a.Waiting⟩ : Queue) A z (U.r B 2) q j (T.mem0 B) Y).mono ?_)
 rintro e_ af ⟨t, l, Z, u, m, aa, rfl, V, W, P⟩
 have R := B.call P
 refine ⟨_, rfl, ?_⟩
 refine wS true 2 0 (.agg #[.slice t d.Slots.length l, .slice u d.Waiting.length m]) 1 [.slice t d.Slots.length l, .slice u d.Waiting.length m] R rfl fun ac G => wR 1 [(4, pB c 0), (5, .bool true)] ac (NC ?_)
 obtain rfl := HS hm
 exact N_ret [.agg #[.slice t d.Slots.length l, .slice u d.Waiting.length m], .bool true] (RX true 2 0 (G.blk 1 rfl) (rC RVs_nil)) (⟨t, l, Z, u, m, aa, rfl, V, W, G.pk [3, 4]⟩)
theorem c_i_leaveIrq (w : World) (a : Interface) (q : Option Addr) (u : Nat) (O : rdS Gx.encI w a.Stack q u) (I : Option Addr) (F : Nat) (bx : rdS encSlot w a.Queue.Slots I F) (J : Option Addr) (G : Nat) (bz : rdS encWaiter w a.Queue.Waiting J G) {r : Interface × Int × Bool} (hm : M.i_leaveIrq a = some r) :
  Calls Tryz.prog 81 #[.agg #[iv a.Mask, .slice q a.Stack.length u, .slice I a.Queue.Slots.length F, .slice J a.Queue.Waiting.length G]] w fun e w' => ∃ (az : Option Addr) (ar : Nat) (a4 : Seg), ∃ (a0 : Option Addr) (au : Nat) (a5 : Seg), ∃ (a3 : Option Addr) (av : Nat) (a6 : Seg), e = .returned (.tuple #[.agg #[iv r.1.Mask, .slice az r.1.Stack.length ar, .slice a0 r.1.Queue.Slots.length au, .slice a3 r.1.Queue.Waiting.length av], iv r.2.1, .bool r.2.2]) ∧ ownS Gx.encI r.1.Stack az ar a4 ∧ ownS encSlot r.1.Queue.Slots a0 au a5 ∧ ownS encWaiter r.1.Queue.Waiting a3 av a6 ∧ Mem [] w w' [a4, a5, a6] := by
 unfold M.i_leaveIrq at hm
 refine cE Tryz.func81 ?_
 have M0 := Mem.refl [] w
 refine QA (wN (.cells ⟨[iv a.Mask, .slice q a.Stack.length u, .slice I a.Queue.Slots.length F, .slice J a.Queue.Waiting.length G]⟩ 87 (0, 0)) M0 fun t cu bb => wN (.cells ⟨[iv 0, .slice none 0 0, .slice none 0 0, .slice none 0 0]⟩ 87 (0, 0)) bb fun x P X => MW 2 (NA (MW 1 (wV (.slice q a.Stack.length u) P (eL false 1 1 (X.blk 0 rfl)) (MW 3 (NB (wR 2 [(1, pB t 0), (2, pB x 0), (5, iv (w64 ((a.Stack.length : Int) - 1))), (13, .bool (decide ((w64 ((a.Stack.length : Int) - 1)) < 0)))] P (NO ?_))))))))
 rcases gx_bif hm with ⟨aa, hm⟩ | ⟨aa, hm⟩
 ·refine gT aa (QA (wR 1 [(2, pB x 0), (14, .agg #[iv 0, .slice none 0 0, .slice none 0 0, .slice none 0 0])] P (wS true 4 0 (.agg #[iv 0, .slice none 0 0, .slice none 0 0, .slice none 0 0]) 1 [iv 0, .slice none 0 0, .slice none 0 0, .slice none 0 0] X rfl fun b3 ae => wR 2 [(2, pB x 0), (3, iv 0), (4, .bool false)] b3 (ND ?_))))
  obtain rfl := HS hm
  exact N_ret [.agg #[iv 0, .slice none 0 0, .slice none 0 0, .slice none 0 0], iv 0, .bool false] (RX true 4 0 (ae.blk 1 rfl) (rC (rC RVs_nil))) (⟨none, 0, [], none, 0, [], none, 0, [], rfl, ownS_nil, ownS_nil, ownS_nil, ae.pk [100000, 100001, 100002]⟩)
 refine gF aa (GK (TN (GS ?_)))
 obtain ⟨Q, aw, hm⟩ := gx_bind hm
 obtain ⟨c, b0, hm⟩ := gx_bind hm
 refine G_sub [(1, pB t 0), (2, pB x 0), (5, iv (w64 ((a.Stack.length : Int) - 1))), (13, .bool (decide ((w64 ((a.Stack.length : Int) - 1)) < 0)))] (by kernel_rfl) (G_dagL 13 [[], [0], [], [2], [], [3, 4], [5], [1, 6], [], [8], [8], [], [9, 11]] [[], [], [], [], [], [], [], [], [], [], [], [], [11]] [[], [], [], [], [], [], [], [], [], [], [], [], []] [[], [], [], [], [], [], [], [], [7], [7], [7], [], [7]] [[], [], [], [], [], [], [], [], [7], [7], [], [], [7, 11]] [[], [], [], [], [], [], [], [], [], [], [], [], []] (fun _ => []) (fun i => ([fun f v s => v = (pB t 2 : Value) ∧ s = [], fun f v s => v = (.agg #[.slice I a.Queue.Slots.length F, .slice J a.Queue.Waiting.length G] : Value) ∧ s = [], fun f v s => v = (pB t 1 : Value) ∧ s = [], fun f v s => v = (.slice q a.Stack.length u : Value) ∧ s = [], fun f v s => v = (iv (w64 ((a.Stack.length : Int) - 1)) : Value) ∧ s = [], fun f v s => v = (elemP q ((w64 ((a.Stack.length : Int) - 1)).toNat * 1) : Value) ∧ s = [], fun f v s => v = (iv Q : Value) ∧ s = [], fun f v s => ∃ (m : Option Addr) (d : Nat) (L : Seg), ∃ (n : Option Addr) (l : Nat) (N : Seg), v = (.tuple #[.agg #[.slice m c.1.Slots.length d, .slice n c.1.Waiting.length l], .bool c.2] : Value) ∧ s = (L ++ N) ∧ ownS encSlot c.1.Slots m d L ∧ ownS encWaiter c.1.Waiting n l N, fun f v s => v = (.tuple #[.agg #[(atPath (f 7) [0, 0]), (atPath (f 7) [0, 1])], .bool c.2] : Value) ∧ s = [], fun f v s => v = (.agg #[(atPath (f 7) [0, 0]), (atPath (f 7) [0, 1])] : Value) ∧ s = [], fun f v s => v = (.bool c.2 : Value) ∧ s = [], fun f v s => ∃ (A : Nat), v = (pB A 0 : Value) ∧ s = [(A, .cells ⟨[.slice none 0 0, .slice none 0 0]⟩ 85 (0, 0))], fun f v s => v = undef ∧ s = [((blkOf (f 11)), .cells ⟨[(atPath (f 7) [0, 0]), (atPath (f 7) [0, 1])]⟩ 85 (0, 0))]] : List ((Nat → Value) → Value → Seg → Prop)).getD i (fun _ _ _ => False)) (fun j f v => ∃ s, (fun i => ([fun f v s => v = (pB t 2 : Value) ∧ s = [], fun f v s => v = (.agg #[.slice I a.Queue.Slots.length F, .slice J a.Queue.Waiting.length G] : Value) ∧ s = [], fun f v s => v = (pB t 1 : Value) ∧ s = [], fun f v s => v = (.slice q a.Stack.length u : Value) ∧ s = [], fun f v s => v = (iv (w64 ((a.Stack.length : Int) - 1)) : Value) ∧ s = [], fun f v s => v = (elemP q ((w64 ((a.Stack.length : Int) - 1)).toNat * 1) : Value) ∧ s = [], fun f v s => v = (iv Q : Value) ∧ s = [], fun f v s => ∃ (m : Option Addr) (d : Nat) (L : Seg), ∃ (n : Option Addr) (l : Nat) (N : Seg), v = (.tuple #[.agg #[.slice m c.1.Slots.length d, .slice n c.1.Waiting.length l], .bool c.2] : Value) ∧ s = (L ++ N) ∧ ownS encSlot c.1.Slots m d L ∧ ownS encWaiter c.1.Waiting n l N, fun f v s => v = (.tuple #[.agg #[(atPath (f 7) [0, 0]), (atPath (f 7) [0, 1])], .bool c.2] : Value) ∧ s = [], fun f v s => v = (.agg #[(atPath (f 7) [0, 0]), (atPath (f 7) [0, 1])] : Value) ∧ s = [], fun f v s => v = (.bool c.2 : Value) ∧ s = [], fun f v s => ∃ (A : Nat), v = (pB A 0 : Value) ∧ s = [(A, .cells ⟨[.slice none 0 0, .slice none 0 0]⟩ 85 (0, 0))], fun f v s => v = undef ∧ s = [((blkOf (f 11)), .cells ⟨[(atPath (f 7) [0, 0]), (atPath (f 7) [0, 1])]⟩ 85 (0, 0))]] : List ((Nat → Value) → Value → Seg → Prop)).getD i (fun _ _ _ => False)) j f v s) [11] [7, 10, 12] [7, 12] (fun _ _ _ s h => ⟨s, h⟩) (by kernel_rfl) (by kernel_rfl) (X.preNil 13) (by kernel_rfl) (by kernel_rfl) (by kernel_rfl) (by kernel_rfl) (allOb_cons ?_ (allOb_cons ?_ (allOb_cons ?_ (allOb_cons ?_ (allOb_cons ?_ (allOb_cons ?_ (allOb_cons ?_ (allOb_cons ?_ (allOb_cons ?_ (allOb_cons ?_ (allOb_cons ?_ (allOb_cons ?_ (allOb_cons ?_ allOb_nil))))))))))))) ?_)
 ·intro C K
  intro R b4 bc
  exact MW 1 (WN (oE (pB t 2) [] ⟨by kernel_rfl, rfl⟩ bc))
 ·intro C K
  intro v0_ hb0_
  obtain ⟨rfl, _⟩ := hb0_
  intro R b5 af
  exact wV (.agg #[.slice I a.Queue.Slots.length F, .slice J a.Queue.Waiting.length G]) b5 (eL true 2 2 (af.blk 0 rfl)) (WN (oE (.agg #[.slice I a.Queue.Slots.length F, .slice J a.Queue.Waiting.length G]) [] ⟨by kernel_rfl, rfl⟩ af))
 ·intro C K
  intro R b6 bd
  exact MW 1 (WN (oE (pB t 1) [] ⟨by kernel_rfl, rfl⟩ bd))
 ·intro C K
  intro v2_ hb2_
  obtain ⟨rfl, _⟩ := hb2_
  intro R b7 ag
  exact wV (.slice q a.Stack.length u) b7 (eL false 1 1 (ag.blk 0 rfl)) (WN (oE (.slice q a.Stack.length u) [] ⟨by kernel_rfl, rfl⟩ ag))
 ·intro C K
  intro R b8 be
  exact MW 1 (WN (oE (iv (w64 ((a.Stack.length : Int) - 1))) [] ⟨by kernel_rfl, rfl⟩ be))
 ·intro C K
  intro v3_ hb3_
  obtain ⟨rfl, _⟩ := hb3_
  intro v4_ hb4_
  obtain ⟨rfl, _⟩ := hb4_
  intro R b9 ah
  exact wV (elemP q ((w64 ((a.Stack.length : Int) - 1)).toNat * 1)) b9 (eI (O.mem0 ah) rfl aw) (WN (oE (elemP q ((w64 ((a.Stack.length : Int) - 1)).toNat * 1)) [] ⟨by kernel_rfl, rfl⟩ ah))
 ·intro C K
  intro v5_ hb5_
  obtain ⟨rfl, _⟩ := hb5_
  intro R ca ai
  exact wV (iv Q) ca (eE false 1 0 ((w64 ((a.Stack.length : Int) - 1)).toNat * 1) (O.mem0 ai) aw) (WN (oE (iv Q) [] ⟨by kernel_rfl, rfl⟩ ai))
 ·intro C K
  intro v1_ hb1_
  obtain ⟨rfl, _⟩ := hb1_
  intro v6_ hb6_
  obtain ⟨rfl, _⟩ := hb6_
  intro R cb Y
  refine WC ((c_i_endQueue cb a.Queue I F (bx.mem0 Y) J G (bz.mem0 Y) Q b0).mono ?_)
  rintro e_ cv ⟨m, d, L, n, l, N, rfl, ab, ac, a9⟩
  refine ⟨_, rfl, ?_⟩
  exact WN (oE (.tuple #[.agg #[.slice m c.1.Slots.length d, .slice n c.1.Waiting.length l], .bool c.2]) (L ++ N) ⟨m, d, L, n, l, N, rfl, rfl, ab, ac⟩ (Mem.callMid Y (a9.permF (by simp))))
 ·intro C K
  intro v7_ hb7_
  obtain ⟨_, m, d, _, n, l, _, rfl, _⟩ := hb7_
  intro R cc bf
  exact MW 1 (WN (oE (.tuple #[.agg #[.slice m c.1.Slots.length d, .slice n c.1.Waiting.length l], .bool c.2]) [] ⟨by kernel_rfl, rfl⟩ bf))
 ·intro C K
  intro v7_ hb7_
  obtain ⟨_, m, d, _, n, l, _, rfl, _⟩ := hb7_
  intro v8_ hb8_
  obtain ⟨hv8_, _⟩ := hb8_
  obtain rfl : v8_ = (.tuple #[.agg #[.slice m c.1.Slots.length d, .slice n c.1.Waiting.length l], .bool c.2] : Value) := hv8_.trans (by kernel_rfl)
  intro R cd bg
  exact MW 1 (WN (oE (.agg #[.slice m c.1.Slots.length d, .slice n c.1.Waiting.length l]) [] ⟨by kernel_rfl, rfl⟩ bg))
 ·intro C K
  intro v7_ hb7_
  obtain ⟨_, m, d, _, n, l, _, rfl, _⟩ := hb7_
  intro v8_ hb8_
  obtain ⟨hv8_, _⟩ := hb8_
  obtain rfl : v8_ = (.tuple #[.agg #[.slice m c.1.Slots.length d, .slice n c.1.Waiting.length l], .bool c.2] : Value) := hv8_.trans (by kernel_rfl)
  intro R ce bh
  exact MW 1 (WN (oE (.bool c.2) [] ⟨by kernel_rfl, rfl⟩ bh))
 ·intro C K
  intro R cw bi
  exact wN (.cells ⟨[.slice none 0 0, .slice none 0 0]⟩ 85 (0, 0)) bi fun A cx bj => WN (oE (pB A 0) [(A, .cells ⟨[.slice none 0 0, .slice none 0 0]⟩ 85 (0, 0))] ⟨A, rfl, rfl⟩ (Mem.mid bj))
 ·intro C K
  intro v7_ hb7_
  obtain ⟨_, m, d, _, n, l, _, rfl, _⟩ := hb7_
  intro v9_ hb9_
  obtain ⟨hv9_, _⟩ := hb9_
  obtain rfl : v9_ = (.agg #[.slice m c.1.Slots.length d, .slice n c.1.Waiting.length l] : Value) := hv9_.trans (by kernel_rfl)
  intro v11_ hb11_
  obtain ⟨A, rfl, hs11_⟩ := hb11_
  intro R a7 bk
  have V : Mem [] w a7 ([[(t, .cells ⟨[iv a.Mask, .slice q a.Stack.length u, .slice I a.Queue.Slots.length F, .slice J a.Queue.Waiting.length G]⟩ 87 (0, 0))], [(x, .cells ⟨[iv 0, .slice none 0 0, .slice none 0 0, .slice none 0 0]⟩ 87 (0, 0))]] ++ ([[]] ++ ([(C 11)] ++ ([] ++ R)))) := bk
  rw [hs11_] at V
  replace V : Mem [] w a7 ([[(t, .cells ⟨[iv a.Mask, .slice q a.Stack.length u, .slice I a.Queue.Slots.length F, .slice J a.Queue.Waiting.length G]⟩ 87 (0, 0))], [(x, .cells ⟨[iv 0, .slice none 0 0, .slice none 0 0, .slice none 0 0]⟩ 87 (0, 0))]] ++ ([[]] ++ ([[(A, .cells ⟨[.slice none 0 0, .slice none 0 0]⟩ 85 (0, 0))]] ++ ([] ++ R)))) := V.permF (by simp)
  exact wS true 2 0 (.agg #[.slice m c.1.Slots.length d, .slice n c.1.Waiting.length l]) 3 [.slice m c.1.Slots.length d, .slice n c.1.Waiting.length l] V rfl fun cy bl => WN (ob_none [(A, .cells ⟨[.slice m c.1.Slots.length d, .slice n c.1.Waiting.length l]⟩ 85 (0, 0))] rfl ⟨rfl, by kernel_rfl⟩ (Mem.takeOver bl))
 intro C K
 intro v11_ hb11_
 obtain ⟨_, A, rfl, hs11_⟩ := hb11_
 intro v7_ hb7_
 obtain ⟨m, d, L, n, l, N, rfl, hs7_, ab, ac⟩ := hb7_
 intro v10_ hb10_
 obtain ⟨rfl, _⟩ := hb10_
 intro v12_ hb12_
 obtain ⟨rfl, hs12_⟩ := hb12_
 replace hs12_ := hs12_.trans (show _ = [(A, .cells ⟨[.slice m c.1.Slots.length d, .slice n c.1.Waiting.length l]⟩ 85 (0, 0))] by kernel_rfl)
 intro W bm
 have U : Mem [] w W [[(t, .cells ⟨[iv a.Mask, .slice q a.Stack.length u, .slice I a.Queue.Slots.length F, .slice J a.Queue.Waiting.length G]⟩ 87 (0, 0))], [(x, .cells ⟨[iv 0, .slice none 0 0, .slice none 0 0, .slice none 0 0]⟩ 87 (0, 0))], (C 7), (C 12)] := bm
 rw [hs7_] at U
 rw [hs12_] at U
 replace U : Mem [] w W [[(t, .cells ⟨[iv a.Mask, .slice q a.Stack.length u, .slice I a.Queue.Slots.length F, .slice J a.Queue.Waiting.length G]⟩ 87 (0, 0))], [(x, .cells ⟨[iv 0, .slice none 0 0, .slice none 0 0, .slice none 0 0]⟩ 87 (0, 0))], L, N, [(A, .cells ⟨[.slice m c.1.Slots.length d, .slice n c.1.Waiting.length l]⟩ 85 (0, 0))]] := U.permF (by simp)
 refine wR 1 [(1, pB t 0), (2, pB x 0), (5, iv (w64 ((a.Stack.length : Int) - 1))), (6, pB A 0)] W (NE ?_)
 obtain ⟨T, ay, hm⟩ := gx_bind hm
 obtain ⟨D, b1, hm⟩ := gx_bind hm
 obtain ⟨S, ax, hm⟩ := gx_bind hm
 have bn : Mem [] w W ([[(t, .cells ⟨[iv a.Mask, .slice q a.Stack.length u, .slice I a.Queue.Slots.length F, .slice J a.Queue.Waiting.length G]⟩ 87 (0, 0))], L, N, [(A, .cells ⟨[.slice m c.1.Slots.length d, .slice n c.1.Waiting.length l]⟩ 85 (0, 0))]] ++ (List.range 15).map (fun i => ([[], [], [], [], [], [], [], [], [], [], [], [], [], [], [(x, .cells ⟨[iv 0, .slice none 0 0, .slice none 0 0, .slice none 0 0]⟩ 87 (0, 0))]] : List Seg).getD i [])) := U.pk [0, 2, 3, 4, 300000, 300001, 300002, 300003, 300004, 300005, 300006, 300007, 300008, 300009, 300010, 300011, 300012, 300013, 1]
 refine G_sub [(1, pB t 0), (2, pB x 0), (5, iv (w64 ((a.Stack.length : Int) - 1))), (6, pB A 0)] (by kernel_rfl) (G_dagL 15 [[], [0], [], [2], [], [3, 4], [5], [], [1, 7], [], [9], [], [10, 11], [12], [8]] [[], [], [], [], [], [], [], [], [], [], [], [], [], [], []] [[], [], [], [], [], [], [], [], [], [], [], [], [], [], []] [[], [], [], [], [], [], [], [], [6], [], [], [], [], [], [6]] [[], [], [], [], [], [], [], [], [6], [], [], [], [], [], [6]] [[], [], [], [], [], [], [], [], [], [], [], [], [], [], []] (fun i => ([[], [], [], [], [], [], [], [], [], [], [], [], [], [], [(x, .cells ⟨[iv 0, .slice none 0 0, .slice none 0 0, .slice none 0 0]⟩ 87 (0, 0))]] : List Seg).getD i []) (fun i => ([fun f v s => v = (pB t 0 : Value) ∧ s = [], fun f v s => v = (iv a.Mask : Value) ∧ s = [], fun f v s => v = (pB t 1 : Value) ∧ s = [], fun f v s => v = (.slice q a.Stack.length u : Value) ∧ s = [], fun f v s => v = (iv (w64 ((a.Stack.length : Int) - 1)) : Value) ∧ s = [], fun f v s => v = (.slice (subP q (0 : Int).toNat u 1) T.length (u - (0 : Int).toNat) : Value) ∧ s = [], fun f v s => ∃ (z : Option Addr) (y : Nat), v = (.slice z D.length y : Value) ∧ ownS Gx.encI D z y s, fun f v s => v = (.agg #[.slice m c.1.Slots.length d, .slice n c.1.Waiting.length l] : Value) ∧ s = [], fun f v s => v = (.agg #[iv a.Mask, (atPath (f 6) []), .slice m c.1.Slots.length d, .slice n c.1.Waiting.length l] : Value) ∧ s = [], fun f v s => v = (pB t 1 : Value) ∧ s = [], fun f v s => v = (.slice q a.Stack.length u : Value) ∧ s = [], fun f v s => v = (iv (w64 ((a.Stack.length : Int) - 1)) : Value) ∧ s = [], fun f v s => v = (elemP q ((w64 ((a.Stack.length : Int) - 1)).toNat * 1) : Value) ∧ s = [], fun f v s => v = (iv S : Value) ∧ s = [], fun f v s => v = undef ∧ s = [(x, .cells ⟨[iv a.Mask, (atPath (f 6) []), .slice m c.1.Slots.length d, .slice n c.1.Waiting.length l]⟩ 87 (0, 0))]] : List ((Nat → Value) → Value → Seg → Prop)).getD i (fun _ _ _ => False)) (fun j f v => ∃ s, (fun i => ([fun f v s => v = (pB t 0 : Value) ∧ s = [], fun f v s => v = (iv a.Mask : Value) ∧ s = [], fun f v s => v = (pB t 1 : Value) ∧ s = [], fun f v s => v = (.slice q a.Stack.length u : Value) ∧ s = [], fun f v s => v = (iv (w64 ((a.Stack.length : Int) - 1)) : Value) ∧ s = [], fun f v s => v = (.slice (subP q (0 : Int).toNat u 1) T.length (u - (0 : Int).toNat) : Value) ∧ s = [], fun f v s => ∃ (z : Option Addr) (y : Nat), v = (.slice z D.length y : Value) ∧ ownS Gx.encI D z y s, fun f v s => v = (.agg #[.slice m c.1.Slots.length d, .slice n c.1.Waiting.length l] : Value) ∧ s = [], fun f v s => v = (.agg #[iv a.Mask, (atPath (f 6) []), .slice m c.1.Slots.length d, .slice n c.1.Waiting.length l] : Value) ∧ s = [], fun f v s => v = (pB t 1 : Value) ∧ s = [], fun f v s => v = (.slice q a.Stack.length u : Value) ∧ s = [], fun f v s => v = (iv (w64 ((a.Stack.length : Int) - 1)) : Value) ∧ s = [], fun f v s => v = (elemP q ((w64 ((a.Stack.length : Int) - 1)).toNat * 1) : Value) ∧ s = [], fun f v s => v = (iv S : Value) ∧ s = [], fun f v s => v = undef ∧ s = [(x, .cells ⟨[iv a.Mask, (atPath (f 6) []), .slice m c.1.Slots.length d, .slice n c.1.Waiting.length l]⟩ 87 (0, 0))]] : List ((Nat → Value) → Value → Seg → Prop)).getD i (fun _ _ _ => False)) j f v s) [] [6, 13, 14] [6, 14] (fun _ _ _ s h => ⟨s, h⟩) (by kernel_rfl) (by kernel_rfl) bn (by kernel_rfl) (by kernel_rfl) (by kernel_rfl) (by kernel_rfl) (allOb_cons ?_ (allOb_cons ?_ (allOb_cons ?_ (allOb_cons ?_ (allOb_cons ?_ (allOb_cons ?_ (allOb_cons ?_ (allOb_cons ?_ (allOb_cons ?_ (allOb_cons ?_ (allOb_cons ?_ (allOb_cons ?_ (allOb_cons ?_ (allOb_cons ?_ (allOb_cons ?_ allOb_nil))))))))))))))) ?_)
 ·intro B H
  intro R cf bo
  exact MW 1 (WN (oE (pB t 0) [] ⟨by kernel_rfl, rfl⟩ bo))
 ·intro B H
  intro v0_ hb0_
  obtain ⟨rfl, _⟩ := hb0_
  intro R cg aj
  exact wV (iv a.Mask) cg (eL false 1 0 (aj.blk 0 rfl)) (WN (oE (iv a.Mask) [] ⟨by kernel_rfl, rfl⟩ aj))
 ·intro B H
  intro R ch bp
  exact MW 1 (WN (oE (pB t 1) [] ⟨by kernel_rfl, rfl⟩ bp))
 ·intro B H
  intro v2_ hb2_
  obtain ⟨rfl, _⟩ := hb2_
  intro R ci ak
  exact wV (.slice q a.Stack.length u) ci (eL false 1 1 (ak.blk 0 rfl)) (WN (oE (.slice q a.Stack.length u) [] ⟨by kernel_rfl, rfl⟩ ak))
 ·intro B H
  intro R cj bq
  exact MW 1 (WN (oE (iv (w64 ((a.Stack.length : Int) - 1))) [] ⟨by kernel_rfl, rfl⟩ bq))
 ·intro B H
  intro v3_ hb3_
  obtain ⟨rfl, _⟩ := hb3_
  intro v4_ hb4_
  obtain ⟨rfl, _⟩ := hb4_
  intro R ck al
  exact wV (.slice (subP q (0 : Int).toNat u 1) T.length (u - (0 : Int).toNat)) ck (E_slice (E := Gx.encI) _ _ _ _ a.Stack.length 0 (w64 ((a.Stack.length : Int) - 1)) rfl (by kernel_rfl) (Or.inl ⟨rfl, rfl⟩) (Or.inr ⟨_, rfl, by kernel_rfl⟩) (by kernel_rfl) (O.mem0 al) rfl ay) (WN (oE (.slice (subP q (0 : Int).toNat u 1) T.length (u - (0 : Int).toNat)) [] ⟨by kernel_rfl, rfl⟩ al))
 ·intro B H
  intro v5_ hb5_
  obtain ⟨rfl, _⟩ := hb5_
  intro R cl am
  refine WC ((c_i_copyInts cl T (subP q (0 : Int).toNat u 1) (u - (0 : Int).toNat) ((O.mem0 am).sliceM ay) b1).mono ?_)
  rintro e_ cz ⟨z, y, b2, rfl, ad, ba⟩
  refine ⟨_, rfl, ?_⟩
  exact WN (oE (.slice z D.length y) b2 ⟨z, y, rfl, ad⟩ (Mem.callMid am ba))
 ·intro B H
  intro R cm an
  exact wV (.agg #[.slice m c.1.Slots.length d, .slice n c.1.Waiting.length l]) cm (eL true 2 0 (an.blk 3 rfl)) (WN (oE (.agg #[.slice m c.1.Slots.length d, .slice n c.1.Waiting.length l]) [] ⟨by kernel_rfl, rfl⟩ an))
 ·intro B H
  intro v6_ hb6_
  obtain ⟨_, z, y, rfl, _⟩ := hb6_
  intro v1_ hb1_
  obtain ⟨rfl, _⟩ := hb1_
  intro v7_ hb7_
  obtain ⟨rfl, _⟩ := hb7_
  intro R cn br
  exact MW 1 (WN (oE (.agg #[iv a.Mask, .slice z D.length y, .slice m c.1.Slots.length d, .slice n c.1.Waiting.length l]) [] ⟨by kernel_rfl, rfl⟩ br))
 ·intro B H
  intro R co bs
  exact MW 1 (WN (oE (pB t 1) [] ⟨by kernel_rfl, rfl⟩ bs))
 ·intro B H
  intro v9_ hb9_
  obtain ⟨rfl, _⟩ := hb9_
  intro R cp ao
  exact wV (.slice q a.Stack.length u) cp (eL false 1 1 (ao.blk 0 rfl)) (WN (oE (.slice q a.Stack.length u) [] ⟨by kernel_rfl, rfl⟩ ao))
 ·intro B H
  intro R cq bt
  exact MW 1 (WN (oE (iv (w64 ((a.Stack.length : Int) - 1))) [] ⟨by kernel_rfl, rfl⟩ bt))
 ·intro B H
  intro v10_ hb10_
  obtain ⟨rfl, _⟩ := hb10_
  intro v11_ hb11_
  obtain ⟨rfl, _⟩ := hb11_
  intro R cr ap
  exact wV (elemP q ((w64 ((a.Stack.length : Int) - 1)).toNat * 1)) cr (eI (O.mem0 ap) rfl ax) (WN (oE (elemP q ((w64 ((a.Stack.length : Int) - 1)).toNat * 1)) [] ⟨by kernel_rfl, rfl⟩ ap))
 ·intro B H
  intro v12_ hb12_
  obtain ⟨rfl, _⟩ := hb12_
  intro R ct aq
  exact wV (iv S) ct (eE false 1 0 ((w64 ((a.Stack.length : Int) - 1)).toNat * 1) (O.mem0 aq) ax) (WN (oE (iv S) [] ⟨by kernel_rfl, rfl⟩ aq))
 ·intro B H
  intro v6_ hb6_
  obtain ⟨_, z, y, rfl, _⟩ := hb6_
  intro v8_ hb8_
  obtain ⟨hv8_, _⟩ := hb8_
  obtain rfl : v8_ = (.agg #[iv a.Mask, .slice z D.length y, .slice m c.1.Slots.length d, .slice n c.1.Waiting.length l] : Value) := hv8_.trans (by kernel_rfl)
  intro R c0 bu
  exact wS true 4 0 (.agg #[iv a.Mask, .slice z D.length y, .slice m c.1.Slots.length d, .slice n c.1.Waiting.length l]) 4 [iv a.Mask, .slice z D.length y, .slice m c.1.Slots.length d, .slice n c.1.Waiting.length l] bu rfl fun c1 bv => WN (ob_none [(x, .cells ⟨[iv a.Mask, .slice z D.length y, .slice m c.1.Slots.length d, .slice n c.1.Waiting.length l]⟩ 87 (0, 0))] rfl ⟨rfl, by kernel_rfl⟩ bv)
 intro B H
 intro v6_ hb6_
 obtain ⟨z, y, rfl, ad⟩ := hb6_
 intro v13_ hb13_
 obtain ⟨rfl, _⟩ := hb13_
 intro v14_ hb14_
 obtain ⟨rfl, hs14_⟩ := hb14_
 replace hs14_ := hs14_.trans (show _ = [(x, .cells ⟨[iv a.Mask, .slice z D.length y, .slice m c.1.Slots.length d, .slice n c.1.Waiting.length l]⟩ 87 (0, 0))] by kernel_rfl)
 intro a8 bw
 have Z : Mem [] w a8 [[(t, .cells ⟨[iv a.Mask, .slice q a.Stack.length u, .slice I a.Queue.Slots.length F, .slice J a.Queue.Waiting.length G]⟩ 87 (0, 0))], L, N, [(A, .cells ⟨[.slice m c.1.Slots.length d, .slice n c.1.Waiting.length l]⟩ 85 (0, 0))], (B 6), (B 14)] := bw
 rw [hs14_] at Z
 refine wR 2 [(2, pB x 0), (3, iv S), (4, .bool true)] a8 (NC ?_)
 obtain rfl := HS hm
 exact N_ret [.agg #[iv a.Mask, .slice z D.length y, .slice m c.1.Slots.length d, .slice n c.1.Waiting.length l], iv S, .bool true] (RX true 4 0 (Z.blk 5 rfl) (rC (rC RVs_nil))) (⟨z, y, (B 6), m, d, L, n, l, N, rfl, ad, ab, ac, Z.pk [4, 1, 2]⟩)
theorem c_i_DrainCpu (w : World) (n : Machine) (an : Option Addr) (ai : Nat) (bw : rdS encRoute w n.Routes an ai) (ao : Option Addr) (aj : Nat) (bx : rdS Gx.encB w n.Enabled ao aj) (ap : Option Addr) (ak : Nat) (bz : rdS Gx.encB w n.Raised ap ak) (aq : Option Addr) (al : Nat) (b0 : rdD deepInterface w n.Cpus aq al) (u : Int) {r : Machine × (List Int) × Bool} (hm : M.i_DrainCpu n u = some r) :
  Calls Tryz.prog 28 #[.agg #[.slice an n.Routes.length ai, .slice ao n.Enabled.length aj, .slice ap n.Raised.length ak, .slice aq n.Cpus.length al], iv u] w fun e w' => ∃ (cy : Option Addr) (cp : Nat) (c4 : Seg), ∃ (cz : Option Addr) (cq : Nat) (c5 : Seg), ∃ (c0 : Option Addr) (cr : Nat) (c6 : Seg), ∃ (c1 : Option Addr) (ct : Nat) (c7 : Seg) (c8 : Seg), ∃ (c2 : Option Addr) (cu : Nat) (c9 : Seg), e = .returned (.tuple #[.agg #[.slice cy r.1.Routes.length cp, .slice cz r.1.Enabled.length cq, .slice c0 r.1.Raised.length cr, .slice c1 r.1.Cpus.length ct], .slice c2 r.2.1.length cu, .bool r.2.2]) ∧ ownS encRoute r.1.Routes cy cp c4 ∧ ownS Gx.encB r.1.Enabled cz cq c5 ∧ ownS Gx.encB r.1.Raised c0 cr c6 ∧ ownD deepInterface r.1.Cpus c1 ct c7 c8 ∧ ownS Gx.encI r.2.1 c2 cu c9 ∧ Mem [] w w' [c4, c5, c6, c7, c8, c9] := by
 unfold M.i_DrainCpu at hm
 refine cE Tryz.func28 ?_
 have M0 := Mem.refl [] w
 refine QA (wN (.cells ⟨[.slice an n.Routes.length ai, .slice ao n.Enabled.length aj, .slice ap n.Raised.length ak, .slice aq n.Cpus.length al]⟩ 32 (0, 0)) M0 fun a8 f7 dh => wN (.cells ⟨[.slice none 0 0, .slice none 0 0, .slice none 0 0, .slice none 0 0]⟩ 32 (0, 0)) dh fun q cd ba => wR 2 [(1, iv u), (2, pB a8 0), (4, pB q 0)] cd (NE (GS ?_)))
 obtain ⟨fa, ef, ed⟩ := gx_bind hm
 refine G_meet (fun a w' => Mem [] w w' [[(a8, .cells ⟨[.slice an n.Routes.length ai, .slice ao n.Enabled.length aj, .slice ap n.Raised.length ak, .slice aq n.Cpus.length al]⟩ 32 (0, 0))], [(q, .cells ⟨[.slice none 0 0, .slice none 0 0, .slice none 0 0, .slice none 0 0]⟩ 32 (0, 0))]] ∧ Sat Tryz.f28.ntmps [(1, iv u), (2, pB a8 0), (4, pB q 0), (20, .bool fa)] a) ?_ ?_
 ·have hm := ef
  refine GR (wV (.agg #[.slice an n.Routes.length ai, .slice ao n.Enabled.length aj, .slice ap n.Raised.length ak, .slice aq n.Cpus.length al]) cd (eL true 4 0 (ba.blk 0 rfl)) ?_)
  obtain ⟨fb, e0, hm⟩ := gx_bind hm
  refine WD (c_i_IsMachine cd n an ai (bw.mem0 ba) ao aj (bx.mem0 ba) ap ak (bz.mem0 ba) aq al (b0.mem0 ba) e0) ba fun be a5 => wR 2 [(1, iv u), (2, pB a8 0), (4, pB q 0), (15, .bool (!fb))] be ?_
  rcases gx_bif hm with ⟨b1, hm⟩ | ⟨b1, hm⟩
  ·refine wK 15 true b1 (wR 5 [(1, iv u), (2, pB a8 0), (4, pB q 0), (20, .bool true)] be (WN ?_))
   obtain rfl := HS hm
   exact N_meet fun a ha => ⟨a5.pk [0, 1], ha.s⟩
  refine wK 15 false b1 (wV (.agg #[.slice an n.Routes.length ai, .slice ao n.Enabled.length aj, .slice ap n.Raised.length ak, .slice aq n.Cpus.length al]) be (eL true 4 0 (a5.blk 0 rfl)) (wR 1 [(1, iv u), (2, pB a8 0), (4, pB q 0), (15, .bool false), (16, .agg #[.slice an n.Routes.length ai, .slice ao n.Enabled.length aj, .slice ap n.Raised.length ak, .slice aq n.Cpus.length al]), (17, iv u)] be ?_))
  obtain ⟨fc, e1, hm⟩ := gx_bind hm
  refine WD (c_i_Machine_hasCpu be n an ai (bw.mem0 a5) ao aj (bx.mem0 a5) ap ak (bz.mem0 a5) aq al (b0.mem0 a5) u e1) a5 fun fm di => wR 2 [(1, iv u), (2, pB a8 0), (4, pB q 0), (20, .bool (!fc))] fm (WN ?_)
  obtain rfl := HS hm
  exact N_meet fun a ha => ⟨di.pk [0, 1], ha.s⟩
 intro f1 ce ⟨a6, ea⟩
 refine N_use ea ?_
 have hm := ed
 refine TN ?_
 rcases gx_bif hm with ⟨b2, hm⟩ | ⟨b2, hm⟩
 ·refine gT b2 (QA (wR 1 [(4, pB q 0), (21, .agg #[.slice none 0 0, .slice none 0 0, .slice none 0 0, .slice none 0 0])] ce (wS true 4 0 (.agg #[.slice none 0 0, .slice none 0 0, .slice none 0 0, .slice none 0 0]) 1 [.slice none 0 0, .slice none 0 0, .slice none 0 0, .slice none 0 0] a6 rfl fun fn ci => wR 2 [(4, pB q 0), (5, .slice none 0 0), (6, .bool false)] fn (ND ?_))))
  obtain rfl := HS hm
  exact N_ret [.agg #[.slice none 0 0, .slice none 0 0, .slice none 0 0, .slice none 0 0], .slice none 0 0, .bool false] (RX true 4 0 (ci.blk 1 rfl) (rC (rC RVs_nil))) (⟨none, 0, [], none, 0, [], none, 0, [], none, 0, [], [], none, 0, [], rfl, ownS_nil, ownS_nil, ownS_nil, ownD_nil, ownS_nil, ci.pk [100000, 100001, 100002, 100003, 100004, 100005]⟩)
 refine gF b2 (KA (wV (.agg #[.slice an n.Routes.length ai, .slice ao n.Enabled.length aj, .slice ap n.Raised.length ak, .slice aq n.Cpus.length al]) ce (eL true 4 0 (a6.blk 0 rfl)) ?_))
 obtain ⟨ay, e2, hm⟩ := gx_bind hm
 refine WC ((c_i_newMachine ce n an ai (bw.mem0 a6) ao aj (bx.mem0 a6) ap ak (bz.mem0 a6) aq al (b0.mem0 a6) e2).mono ?_)
 rintro e_ f8 ⟨b8, br, fe, b9, bs, ff, ca, bt, fg, cb, bu, fh, fi, rfl, eg, eh, ei, ej, dd⟩
 have dj := a6.call dd
 refine ⟨_, rfl, ?_⟩
 refine wL (E := Gx.encI) ([] : List Int) 0 [] 3 dj fun c3 cv fj f9 ek dk => wN (.cells ⟨[.slice none 0 0, .slice none 0 0, .slice none 0 0, .slice none 0 0]⟩ 32 (0, 0)) dk fun y ga dl => wS true 4 0 (.agg #[.slice b8 ay.Routes.length br, .slice b9 ay.Enabled.length bs, .slice ca ay.Raised.length bt, .slice cb ay.Cpus.length bu]) 8 [.slice b8 ay.Routes.length br, .slice b9 ay.Enabled.length bs, .slice ca ay.Raised.length bt, .slice cb ay.Cpus.length bu] dl rfl fun da bo => wR 1 [(1, iv u), (4, pB q 0), (7, pB y 0), (8, .slice c3 ([] : List Int).length cv)] da (NA ?_)
 obtain ⟨l, e3, hm⟩ := gx_bind hm
 refine WC ((c_i_Machine_sync da ay b8 br fe eg b9 bs ff eh ca bt fg ei cb bu fh fi ej y (bo.hasPick [8, 2, 3, 4, 5, 6]) (bo.nodupPick [8, 2, 3, 4, 5, 6] (by kernel_rfl)) e3).mono ?_)
 rintro e_ gb ⟨G, z, Z, H, A, aa, I, B, ab, t, x, fk, fl, rfl, el, em, en, eo, de⟩
 have dm := bo.callF' [8, 2, 3, 4, 5, 6] [0, 1, 7] (by kernel_rfl) de
 refine ⟨_, rfl, ?_⟩
 refine NO ?_
 obtain ⟨f5, e7, ee⟩ := gx_bind hm
 refine G_meet (fun a w' => False) ?_ ?_
 ·refine GB (G_while (σ := List Int × List Interface) (ρ := Machine × (List Int) × Bool) (fun m a w' => ∃ (ar : Option Addr), ∃ (am : Nat), ∃ (bl : Seg), ∃ (av : Seg), ∃ (aw : Seg), ownS Gx.encI m.1 ar am bl ∧ ownD deepInterface m.2 t x av aw ∧ Mem [] w w' [[(q, .cells ⟨[.slice none 0 0, .slice none 0 0, .slice none 0 0, .slice none 0 0]⟩ 32 (0, 0))], [(y, .cells ⟨[.slice G l.1.length z, .slice H l.2.1.length A, .slice I l.2.2.1.length B, .slice t m.2.length x]⟩ 32 (0, 0))], Z, aa, ab, bl, av, aw] ∧ Sat Tryz.f28.ntmps [(1, iv u), (4, pB q 0), (7, pB y 0), (8, .slice ar m.1.length am)] a) e7 (fun a ha => ⟨c3, cv, fj, fk, fl, ek, eo, dm.pk [1, 3, 4, 5, 6, 2, 7, 8], ha.s⟩) ?_)
  clear hm
  intro m gf hm ey f2 bb ⟨ar, am, bl, av, aw, cw, cx, a7, eb⟩
  refine G_use eb (GB (QA (MW 1 (wV (.slice t m.2.length x) bb (eL false 1 3 (a7.blk 1 rfl)) (wR 1 [(1, iv u), (4, pB q 0), (7, pB y 0), (8, .slice ar m.1.length am), (28, .slice t m.2.length x), (29, iv u)] bb ?_)))))
  obtain ⟨ah, e8, hm⟩ := gx_bind hm
  obtain ⟨gg, bd, bk, bj⟩ := id cx
  obtain ⟨Q, bc⟩ := gxIdx_fst bd e8
  refine wV (elemP t (u.toNat * 4)) bb (eI (bk.r a7 6) (len_fst bd) bc) (wV (.agg #[iv ah.Mask, .slice ((Q 0).1) ah.Stack.length ((Q 0).2), .slice ((Q 1).1) ah.Queue.Slots.length ((Q 1).2), .slice ((Q 2).1) ah.Queue.Waiting.length ((Q 2).2)]) bb (eE true 4 0 (u.toNat * 4) (bk.r a7 6) bc) ?_)
  obtain ⟨d, e4, hm⟩ := gx_bind hm
  refine WC ((c_i_takeIrq bb ah ((Q 0).1) ((Q 0).2) ((bj.r a7 7).at_ bc 0 ⟨Int, Gx.encI, ah.Stack, (Q 0).1, (Q 0).2⟩ (by kernel_rfl)) ((Q 1).1) ((Q 1).2) ((bj.r a7 7).at_ bc 1 ⟨Slot, encSlot, ah.Queue.Slots, (Q 1).1, (Q 1).2⟩ (by kernel_rfl)) ((Q 2).1) ((Q 2).2) ((bj.r a7 7).at_ bc 2 ⟨Waiter, encWaiter, ah.Queue.Waiting, (Q 2).1, (Q 2).2⟩ (by kernel_rfl)) e4).mono ?_)
  rintro e_ fo ⟨S, N, ad, T, O, ae, U, P, af, rfl, ep, er, es, df⟩
  have dn := a7.call df
  refine ⟨_, rfl, ?_⟩
  refine wR 4 [(1, iv u), (4, pB q 0), (7, pB y 0), (8, .slice ar m.1.length am), (33, .agg #[iv d.1.Mask, .slice S d.1.Stack.length N, .slice T d.1.Queue.Slots.length O, .slice U d.1.Queue.Waiting.length P]), (34, iv d.2.1), (35, .bool d.2.2)] fo (wN (.cells ⟨[iv 0, .slice none 0 0, .slice none 0 0, .slice none 0 0]⟩ 87 (0, 0)) dn fun V gc dp => wS true 4 0 (.agg #[iv d.1.Mask, .slice S d.1.Stack.length N, .slice T d.1.Queue.Slots.length O, .slice U d.1.Queue.Waiting.length P]) 11 [iv d.1.Mask, .slice S d.1.Stack.length N, .slice T d.1.Queue.Slots.length O, .slice U d.1.Queue.Waiting.length P] dp rfl fun bf bp => MW 2 (NB (wR 2 [(1, iv u), (4, pB q 0), (7, pB y 0), (8, .slice ar m.1.length am), (9, pB V 0), (10, iv d.2.1), (37, .bool (!d.2.2))] bf (NO ?_))))
  rcases gx_bif hm with ⟨b3, hm⟩ | ⟨b3, hm⟩
  ·refine gT b3 (QA (wV (.agg #[.slice G l.1.length z, .slice H l.2.1.length A, .slice I l.2.2.1.length B, .slice t m.2.length x]) bf (eL true 4 0 (bp.blk 1 rfl)) (wR 1 [(4, pB q 0), (38, .agg #[.slice G l.1.length z, .slice H l.2.1.length A, .slice I l.2.2.1.length B, .slice t m.2.length x]), (39, .slice ar m.1.length am)] bf (wS true 4 0 (.agg #[.slice G l.1.length z, .slice H l.2.1.length A, .slice I l.2.2.1.length B, .slice t m.2.length x]) 0 [.slice G l.1.length z, .slice H l.2.1.length A, .slice I l.2.2.1.length B, .slice t m.2.length x] bp rfl fun fp cj => wR 2 [(4, pB q 0), (5, .slice ar m.1.length am), (6, .bool true)] fp (ND (BR (TR ?_)))))))
   obtain rfl := HS hm
   obtain rfl := ey _ rfl
   have hm := ee
   refine BR (N_meet_ret ?_)
   obtain rfl := HS hm
   exact N_ret [.agg #[.slice G l.1.length z, .slice H l.2.1.length A, .slice I l.2.2.1.length B, .slice t m.2.length x], .slice ar m.1.length am, .bool true] (RX true 4 0 (cj.blk 0 rfl) (rC (rC RVs_nil))) (⟨G, z, Z, H, A, aa, I, B, ab, t, x, av, aw, ar, am, bl, rfl, el, em, en, cx, cw, cj.pk [2, 3, 4, 6, 7, 5]⟩)
  refine gF b3 (KA (wR 2 [(1, iv u), (4, pB q 0), (7, pB y 0), (8, .slice ar m.1.length am), (9, pB V 0), (40, .slice ar m.1.length am), (41, iv d.2.1)] bf (wL (E := Gx.encI) [d.2.1] 1 [iv d.2.1] 3 bp ?_)))
  intro f6 f3 ag gd et ck
  obtain ⟨co, ec, hm⟩ := gx_bind hm
  refine wA 8 [iv 0] 5 ck cw (et.r ck 12) ec fun cc bv ac bm eu dq => wR 1 [(1, iv u), (4, pB q 0), (7, pB y 0), (8, .slice cc co.length bv), (9, pB V 0)] bm (NO ?_)
  have dr : Mem [] w bm [[(q, .cells ⟨[.slice none 0 0, .slice none 0 0, .slice none 0 0, .slice none 0 0]⟩ 32 (0, 0))], [(y, .cells ⟨[.slice G l.1.length z, .slice H l.2.1.length A, .slice I l.2.2.1.length B, .slice t m.2.length x]⟩ 32 (0, 0))], Z, aa, ab, ac, ad, ae, af, [(V, .cells ⟨[iv d.1.Mask, .slice S d.1.Stack.length N, .slice T d.1.Queue.Slots.length O, .slice U d.1.Queue.Waiting.length P]⟩ 87 (0, 0))], ag, av, aw] := dq.pk [0, 1, 2, 3, 4, 5, 8, 9, 10, 11, 12, 6, 7]
  have ds : Mem [] w bm [[(q, .cells ⟨[.slice none 0 0, .slice none 0 0, .slice none 0 0, .slice none 0 0]⟩ 32 (0, 0))], [(y, .cells ⟨[.slice G l.1.length z, .slice H l.2.1.length A, .slice I l.2.2.1.length B, .slice t m.2.length x]⟩ 32 (0, 0))], Z, aa, ab, ac, ad, ae, af, [(V, .cells ⟨[iv d.1.Mask, .slice S d.1.Stack.length N, .slice T d.1.Queue.Slots.length O, .slice U d.1.Queue.Waiting.length P]⟩ 87 (0, 0))], ag, (av ++ aw)] := dr.regroup (by simp)
  obtain ⟨c, e5, hm⟩ := gx_bind hm
  obtain ⟨f0, e9, hm⟩ := gx_bind hm
  obtain ⟨d9, b4⟩ := gxIdx_fst bd e9
  have dt : Mem [] w bm ([[(q, .cells ⟨[.slice none 0 0, .slice none 0 0, .slice none 0 0, .slice none 0 0]⟩ 32 (0, 0))], [(y, .cells ⟨[.slice G l.1.length z, .slice H l.2.1.length A, .slice I l.2.2.1.length B, .slice t m.2.length x]⟩ 32 (0, 0))], Z, aa, ab, ac, ad, ae, af, [(V, .cells ⟨[iv d.1.Mask, .slice S d.1.Stack.length N, .slice T d.1.Queue.Slots.length O, .slice U d.1.Queue.Waiting.length P]⟩ 87 (0, 0))], ag] ++ (List.range 11).map (fun i => ([[], [], [], [], [], [], [], [], [], [], (av ++ aw)] : List Seg).getD i [])) := ds.pk [0, 1, 2, 3, 4, 5, 6, 7, 8, 9, 10, 300000, 300001, 300002, 300003, 300004, 300005, 300006, 300007, 300008, 300009, 11]
  refine G_sub [(1, iv u), (4, pB q 0), (7, pB y 0), (8, .slice cc co.length bv), (9, pB V 0)] (by kernel_rfl) (G_dagL 11 [[], [0], [], [], [3], [], [5], [5], [5], [1, 2], [4, 6, 9]] [[], [], [], [], [], [], [], [], [], [], [4]] [[], [], [], [], [], [], [], [], [], [], []] [[], [], [], [], [], [4], [4], [4], [4], [], []] [[], [], [], [], [], [4], [4], [], [], [], []] [[], [], [], [], [], [], [], [], [], [10], []] (fun i => ([[], [], [], [], [], [], [], [], [], [], (av ++ aw)] : List Seg).getD i []) (fun i => ([fun f v s => v = (pB y 3 : Value) ∧ s = [], fun f v s => v = (.slice t m.2.length x : Value) ∧ s = [], fun f v s => v = (iv u : Value) ∧ s = [], fun f v s => v = (.agg #[iv d.1.Mask, .slice S d.1.Stack.length N, .slice T d.1.Queue.Slots.length O, .slice U d.1.Queue.Waiting.length P] : Value) ∧ s = [], fun f v s => ∃ (J : Option Addr) (C : Nat) (W : Seg), ∃ (K : Option Addr) (D : Nat) (X : Seg), ∃ (L : Option Addr) (F : Nat) (Y : Seg), v = (.tuple #[.agg #[iv c.1.Mask, .slice J c.1.Stack.length C, .slice K c.1.Queue.Slots.length D, .slice L c.1.Queue.Waiting.length F], iv c.2.1, .bool c.2.2] : Value) ∧ s = (W ++ (X ++ Y)) ∧ ownS Gx.encI c.1.Stack J C W ∧ ownS encSlot c.1.Queue.Slots K D X ∧ ownS encWaiter c.1.Queue.Waiting L F Y, fun f v s => v = (.tuple #[.agg #[iv c.1.Mask, (atPath (f 4) [0, 1]), (atPath (f 4) [0, 2]), (atPath (f 4) [0, 3])], iv c.2.1, .bool c.2.2] : Value) ∧ s = [], fun f v s => v = (.agg #[iv c.1.Mask, (atPath (f 4) [0, 1]), (atPath (f 4) [0, 2]), (atPath (f 4) [0, 3])] : Value) ∧ s = [], fun f v s => v = (iv c.2.1 : Value) ∧ s = [], fun f v s => v = (.bool c.2.2 : Value) ∧ s = [], fun f v s => v = (elemP t (u.toNat * 4) : Value) ∧ s = [], fun f v s => v = undef ∧ ∃ (az : Seg) (a0 : Seg), s = az ++ a0 ∧ ownD deepInterface (m.2.set u.toNat c.1) t x az a0] : List ((Nat → Value) → Value → Seg → Prop)).getD i (fun _ _ _ => False)) (fun j f v => ∃ s, (fun i => ([fun f v s => v = (pB y 3 : Value) ∧ s = [], fun f v s => v = (.slice t m.2.length x : Value) ∧ s = [], fun f v s => v = (iv u : Value) ∧ s = [], fun f v s => v = (.agg #[iv d.1.Mask, .slice S d.1.Stack.length N, .slice T d.1.Queue.Slots.length O, .slice U d.1.Queue.Waiting.length P] : Value) ∧ s = [], fun f v s => ∃ (J : Option Addr) (C : Nat) (W : Seg), ∃ (K : Option Addr) (D : Nat) (X : Seg), ∃ (L : Option Addr) (F : Nat) (Y : Seg), v = (.tuple #[.agg #[iv c.1.Mask, .slice J c.1.Stack.length C, .slice K c.1.Queue.Slots.length D, .slice L c.1.Queue.Waiting.length F], iv c.2.1, .bool c.2.2] : Value) ∧ s = (W ++ (X ++ Y)) ∧ ownS Gx.encI c.1.Stack J C W ∧ ownS encSlot c.1.Queue.Slots K D X ∧ ownS encWaiter c.1.Queue.Waiting L F Y, fun f v s => v = (.tuple #[.agg #[iv c.1.Mask, (atPath (f 4) [0, 1]), (atPath (f 4) [0, 2]), (atPath (f 4) [0, 3])], iv c.2.1, .bool c.2.2] : Value) ∧ s = [], fun f v s => v = (.agg #[iv c.1.Mask, (atPath (f 4) [0, 1]), (atPath (f 4) [0, 2]), (atPath (f 4) [0, 3])] : Value) ∧ s = [], fun f v s => v = (iv c.2.1 : Value) ∧ s = [], fun f v s => v = (.bool c.2.2 : Value) ∧ s = [], fun f v s => v = (elemP t (u.toNat * 4) : Value) ∧ s = [], fun f v s => v = undef ∧ ∃ (az : Seg) (a0 : Seg), s = az ++ a0 ∧ ownD deepInterface (m.2.set u.toNat c.1) t x az a0] : List ((Nat → Value) → Value → Seg → Prop)).getD i (fun _ _ _ => False)) j f v s) [] [10] [10] (fun _ _ _ s h => ⟨s, h⟩) (by kernel_rfl) (by kernel_rfl) dt (by kernel_rfl) (by kernel_rfl) (by kernel_rfl) (by kernel_rfl) (allOb_cons ?_ (allOb_cons ?_ (allOb_cons ?_ (allOb_cons ?_ (allOb_cons ?_ (allOb_cons ?_ (allOb_cons ?_ (allOb_cons ?_ (allOb_cons ?_ (allOb_cons ?_ (allOb_cons ?_ allOb_nil))))))))))) ?_)
  ·intro au ax
   intro R fq du
   exact MW 1 (WN (oE (pB y 3) [] ⟨by kernel_rfl, rfl⟩ du))
  ·intro au ax
   intro v0_ hb0_
   obtain ⟨rfl, _⟩ := hb0_
   intro R fs cl
   exact wV (.slice t m.2.length x) fs (eL false 1 3 (cl.blk 1 rfl)) (WN (oE (.slice t m.2.length x) [] ⟨by kernel_rfl, rfl⟩ cl))
  ·intro au ax
   intro R ft dv
   exact MW 1 (WN (oE (iv u) [] ⟨by kernel_rfl, rfl⟩ dv))
  ·intro au ax
   intro R fu cm
   exact wV (.agg #[iv d.1.Mask, .slice S d.1.Stack.length N, .slice T d.1.Queue.Slots.length O, .slice U d.1.Queue.Waiting.length P]) fu (eL true 4 0 (cm.blk 9 rfl)) (WN (oE (.agg #[iv d.1.Mask, .slice S d.1.Stack.length N, .slice T d.1.Queue.Slots.length O, .slice U d.1.Queue.Waiting.length P]) [] ⟨by kernel_rfl, rfl⟩ cm))
  ·intro au ax
   intro v3_ hb3_
   obtain ⟨rfl, _⟩ := hb3_
   intro R fv bg
   refine WC ((c_i_leaveIrq fv d.1 S N (ep.r bg 6) T O (er.r bg 7) U P (es.r bg 8) e5).mono ?_)
   rintro e_ ge ⟨J, C, W, K, D, X, L, F, Y, rfl, b5, b6, b7, dg⟩
   refine ⟨_, rfl, ?_⟩
   exact WN (oE (.tuple #[.agg #[iv c.1.Mask, .slice J c.1.Stack.length C, .slice K c.1.Queue.Slots.length D, .slice L c.1.Queue.Waiting.length F], iv c.2.1, .bool c.2.2]) (W ++ (X ++ Y)) ⟨J, C, W, K, D, X, L, F, Y, rfl, rfl, b5, b6, b7⟩ (Mem.callMid bg (dg.permF (by simp))))
  ·intro au ax
   intro v4_ hb4_
   obtain ⟨_, J, C, _, K, D, _, L, F, _, rfl, _⟩ := hb4_
   intro R fw dw
   exact MW 1 (WN (oE (.tuple #[.agg #[iv c.1.Mask, .slice J c.1.Stack.length C, .slice K c.1.Queue.Slots.length D, .slice L c.1.Queue.Waiting.length F], iv c.2.1, .bool c.2.2]) [] ⟨by kernel_rfl, rfl⟩ dw))
  ·intro au ax
   intro v4_ hb4_
   obtain ⟨_, J, C, _, K, D, _, L, F, _, rfl, _⟩ := hb4_
   intro v5_ hb5_
   obtain ⟨hv5_, _⟩ := hb5_
   obtain rfl : v5_ = (.tuple #[.agg #[iv c.1.Mask, .slice J c.1.Stack.length C, .slice K c.1.Queue.Slots.length D, .slice L c.1.Queue.Waiting.length F], iv c.2.1, .bool c.2.2] : Value) := hv5_.trans (by kernel_rfl)
   intro R fx dx
   exact MW 1 (WN (oE (.agg #[iv c.1.Mask, .slice J c.1.Stack.length C, .slice K c.1.Queue.Slots.length D, .slice L c.1.Queue.Waiting.length F]) [] ⟨by kernel_rfl, rfl⟩ dx))
  ·intro au ax
   intro v4_ hb4_
   obtain ⟨_, J, C, _, K, D, _, L, F, _, rfl, _⟩ := hb4_
   intro v5_ hb5_
   obtain ⟨hv5_, _⟩ := hb5_
   obtain rfl : v5_ = (.tuple #[.agg #[iv c.1.Mask, .slice J c.1.Stack.length C, .slice K c.1.Queue.Slots.length D, .slice L c.1.Queue.Waiting.length F], iv c.2.1, .bool c.2.2] : Value) := hv5_.trans (by kernel_rfl)
   intro R fy dy
   exact MW 1 (WN (oE (iv c.2.1) [] ⟨by kernel_rfl, rfl⟩ dy))
  ·intro au ax
   intro v4_ hb4_
   obtain ⟨_, J, C, _, K, D, _, L, F, _, rfl, _⟩ := hb4_
   intro v5_ hb5_
   obtain ⟨hv5_, _⟩ := hb5_
   obtain rfl : v5_ = (.tuple #[.agg #[iv c.1.Mask, .slice J c.1.Stack.length C, .slice K c.1.Queue.Slots.length D, .slice L c.1.Queue.Waiting.length F], iv c.2.1, .bool c.2.2] : Value) := hv5_.trans (by kernel_rfl)
   intro R fz dz
   exact MW 1 (WN (oE (.bool c.2.2) [] ⟨by kernel_rfl, rfl⟩ dz))
  ·intro au ax
   intro v1_ hb1_
   obtain ⟨rfl, _⟩ := hb1_
   intro v2_ hb2_
   obtain ⟨rfl, _⟩ := hb2_
   intro R cf cn
   have bq : Mem [] w cf ([[(q, .cells ⟨[.slice none 0 0, .slice none 0 0, .slice none 0 0, .slice none 0 0]⟩ 32 (0, 0))], [(y, .cells ⟨[.slice G l.1.length z, .slice H l.2.1.length A, .slice I l.2.2.1.length B, .slice t m.2.length x]⟩ 32 (0, 0))], Z, aa, ab, ac, ad, ae, af, [(V, .cells ⟨[iv d.1.Mask, .slice S d.1.Stack.length N, .slice T d.1.Queue.Slots.length O, .slice U d.1.Queue.Waiting.length P]⟩ 87 (0, 0))], ag] ++ ([[]] ++ ([] ++ ([(av ++ aw)] ++ R)))) := cn
   replace bq : Mem [] w cf ([[(q, .cells ⟨[.slice none 0 0, .slice none 0 0, .slice none 0 0, .slice none 0 0]⟩ 32 (0, 0))], [(y, .cells ⟨[.slice G l.1.length z, .slice H l.2.1.length A, .slice I l.2.2.1.length B, .slice t m.2.length x]⟩ 32 (0, 0))], Z, aa, ab, ac, ad, ae, af, [(V, .cells ⟨[iv d.1.Mask, .slice S d.1.Stack.length N, .slice T d.1.Queue.Slots.length O, .slice U d.1.Queue.Waiting.length P]⟩ 87 (0, 0))], ag] ++ ([[]] ++ ([] ++ ([av, aw] ++ R)))) := bq.permF (by simp)
   exact wV (elemP t (u.toNat * 4)) cf (eI (bk.r bq 12) (len_fst bd) b4) (WN (oE (elemP t (u.toNat * 4)) [] ⟨by kernel_rfl, rfl⟩ cn))
  ·intro au ax
   intro v4_ hb4_
   obtain ⟨J, C, W, K, D, X, L, F, Y, rfl, hs4_, b5, b6, b7⟩ := hb4_
   intro v6_ hb6_
   obtain ⟨hv6_, _⟩ := hb6_
   obtain rfl : v6_ = (.agg #[iv c.1.Mask, .slice J c.1.Stack.length C, .slice K c.1.Queue.Slots.length D, .slice L c.1.Queue.Waiting.length F] : Value) := hv6_.trans (by kernel_rfl)
   intro v9_ hb9_
   obtain ⟨rfl, _⟩ := hb9_
   intro R cg d0
   have bh : Mem [] w cg ([[(q, .cells ⟨[.slice none 0 0, .slice none 0 0, .slice none 0 0, .slice none 0 0]⟩ 32 (0, 0))], [(y, .cells ⟨[.slice G l.1.length z, .slice H l.2.1.length A, .slice I l.2.2.1.length B, .slice t m.2.length x]⟩ 32 (0, 0))], Z, aa, ab, ac, ad, ae, af, [(V, .cells ⟨[iv d.1.Mask, .slice S d.1.Stack.length N, .slice T d.1.Queue.Slots.length O, .slice U d.1.Queue.Waiting.length P]⟩ 87 (0, 0))], ag] ++ ([(av ++ aw)] ++ ([(au 4)] ++ ([] ++ R)))) := d0
   rw [hs4_] at bh
   replace bh : Mem [] w cg ([[(q, .cells ⟨[.slice none 0 0, .slice none 0 0, .slice none 0 0, .slice none 0 0]⟩ 32 (0, 0))], [(y, .cells ⟨[.slice G l.1.length z, .slice H l.2.1.length A, .slice I l.2.2.1.length B, .slice t m.2.length x]⟩ 32 (0, 0))], Z, aa, ab, ac, ad, ae, af, [(V, .cells ⟨[iv d.1.Mask, .slice S d.1.Stack.length N, .slice T d.1.Queue.Slots.length O, .slice U d.1.Queue.Waiting.length P]⟩ 87 (0, 0))], ag] ++ ([(av ++ aw)] ++ ([W, X, Y] ++ ([] ++ R)))) := bh.permF (by simp)
   have d1 : Mem [] w cg [[(q, .cells ⟨[.slice none 0 0, .slice none 0 0, .slice none 0 0, .slice none 0 0]⟩ 32 (0, 0))], [(y, .cells ⟨[.slice G l.1.length z, .slice H l.2.1.length A, .slice I l.2.2.1.length B, .slice t m.2.length x]⟩ 32 (0, 0))], Z, aa, ab, ac, ad, ae, af, [(V, .cells ⟨[iv d.1.Mask, .slice S d.1.Stack.length N, .slice T d.1.Queue.Slots.length O, .slice U d.1.Queue.Waiting.length P]⟩ 87 (0, 0))], ag, av, aw, W, X, Y, R.flatten] := bh.permF (by simp)
   obtain ⟨a3, fd, a4, e6, f4, ez⟩ := bj.lens (gxIdx_spec b4).2
   have d2 := d1.cut 12 (sa := a3) (sb := fd) (sc := a4) e6 (by kernel_rfl)
   refine wE true 4 u.toNat 0 (u.toNat * 4) (f0, d9) (c.1, (plOf [(J, C), (K, D), (L, F)])) (.agg #[iv c.1.Mask, .slice J c.1.Stack.length C, .slice K c.1.Queue.Slots.length D, .slice L c.1.Queue.Waiting.length F]) 11 d2 bk (gxIdx_spec b4).2 ?_
   intro bn a9 ew d3
   have d4 : Mem [] w bn [[(q, .cells ⟨[.slice none 0 0, .slice none 0 0, .slice none 0 0, .slice none 0 0]⟩ 32 (0, 0))], [(y, .cells ⟨[.slice G l.1.length z, .slice H l.2.1.length A, .slice I l.2.2.1.length B, .slice t m.2.length x]⟩ 32 (0, 0))], Z, aa, ab, ac, ad, ae, af, [(V, .cells ⟨[iv d.1.Mask, .slice S d.1.Stack.length N, .slice T d.1.Queue.Slots.length O, .slice U d.1.Queue.Waiting.length P]⟩ 87 (0, 0))], ag, a9, R.flatten, a3, W, X, Y, a4] := d3.pk [0, 1, 2, 3, 4, 5, 6, 7, 8, 9, 10, 11, 16, 12, 13, 14, 15, 18]
   have d5 : Mem [] w bn [[(q, .cells ⟨[.slice none 0 0, .slice none 0 0, .slice none 0 0, .slice none 0 0]⟩ 32 (0, 0))], [(y, .cells ⟨[.slice G l.1.length z, .slice H l.2.1.length A, .slice I l.2.2.1.length B, .slice t m.2.length x]⟩ 32 (0, 0))], Z, aa, ab, ac, ad, ae, af, [(V, .cells ⟨[iv d.1.Mask, .slice S d.1.Stack.length N, .slice T d.1.Queue.Slots.length O, .slice U d.1.Queue.Waiting.length P]⟩ 87 (0, 0))], ag, a9, R.flatten, (a3 ++ ((W ++ (X ++ (Y ++ []))) ++ a4))] := d4.regroup (by simp)
   have ex : ownD deepInterface (m.2.set u.toNat c.1) t x a9 (a3 ++ ((W ++ (X ++ (Y ++ []))) ++ a4)) := ⟨_, set_fst bd u.toNat (c.1, (plOf [(J, C), (K, D), (L, F)])), ew, (ez (c.1, (plOf [(J, C), (K, D), (L, F)])) _ (ownI_cons (i := ⟨Int, Gx.encI, _, _, _⟩) b5 (ownI_cons (i := ⟨Slot, encSlot, _, _, _⟩) b6 (ownI_cons (i := ⟨Waiter, encWaiter, _, _, _⟩) b7 ownI_nil))))⟩
   have d6 : Mem [] w bn [[(q, .cells ⟨[.slice none 0 0, .slice none 0 0, .slice none 0 0, .slice none 0 0]⟩ 32 (0, 0))], [(y, .cells ⟨[.slice G l.1.length z, .slice H l.2.1.length A, .slice I l.2.2.1.length B, .slice t m.2.length x]⟩ 32 (0, 0))], Z, aa, ab, ac, ad, ae, af, [(V, .cells ⟨[iv d.1.Mask, .slice S d.1.Stack.length N, .slice T d.1.Queue.Slots.length O, .slice U d.1.Queue.Waiting.length P]⟩ 87 (0, 0))], ag, a9, (a3 ++ ((W ++ (X ++ (Y ++ []))) ++ a4)), R.flatten] := d5.pk [0, 1, 2, 3, 4, 5, 6, 7, 8, 9, 10, 11, 13, 12]
   exact WN (ob_none (a9 ++ (a3 ++ ((W ++ (X ++ (Y ++ []))) ++ a4))) rfl ⟨rfl, a9, (a3 ++ ((W ++ (X ++ (Y ++ []))) ++ a4)), rfl, ex⟩ (show Mem [] w bn ([[(q, .cells ⟨[.slice none 0 0, .slice none 0 0, .slice none 0 0, .slice none 0 0]⟩ 32 (0, 0))], [(y, .cells ⟨[.slice G l.1.length z, .slice H l.2.1.length A, .slice I l.2.2.1.length B, .slice t m.2.length x]⟩ 32 (0, 0))], Z, aa, ab, ac, ad, ae, af, [(V, .cells ⟨[iv d.1.Mask, .slice S d.1.Stack.length N, .slice T d.1.Queue.Slots.length O, .slice U d.1.Queue.Waiting.length P]⟩ 87 (0, 0))], ag] ++ ([(a9 ++ (a3 ++ ((W ++ (X ++ (Y ++ []))) ++ a4)))] ++ ([] ++ ([] ++ R)))) from d6.permF (by simp)))
  intro au ax
  intro v10_ hb10_
  obtain ⟨rfl, az, a0, hs10_, ev⟩ := hb10_
  intro ch d7
  have bi : Mem [] w ch [[(q, .cells ⟨[.slice none 0 0, .slice none 0 0, .slice none 0 0, .slice none 0 0]⟩ 32 (0, 0))], [(y, .cells ⟨[.slice G l.1.length z, .slice H l.2.1.length A, .slice I l.2.2.1.length B, .slice t m.2.length x]⟩ 32 (0, 0))], Z, aa, ab, ac, ad, ae, af, [(V, .cells ⟨[iv d.1.Mask, .slice S d.1.Stack.length N, .slice T d.1.Queue.Slots.length O, .slice U d.1.Queue.Waiting.length P]⟩ 87 (0, 0))], ag, (au 10)] := d7
  rw [hs10_] at bi
  replace bi : Mem [] w ch [[(q, .cells ⟨[.slice none 0 0, .slice none 0 0, .slice none 0 0, .slice none 0 0]⟩ 32 (0, 0))], [(y, .cells ⟨[.slice G l.1.length z, .slice H l.2.1.length A, .slice I l.2.2.1.length B, .slice t m.2.length x]⟩ 32 (0, 0))], Z, aa, ab, ac, ad, ae, af, [(V, .cells ⟨[iv d.1.Mask, .slice S d.1.Stack.length N, .slice T d.1.Queue.Slots.length O, .slice U d.1.Queue.Waiting.length P]⟩ 87 (0, 0))], ag, az, a0] := bi.permF (by simp)
  have d8 : Mem [] w ch [[(q, .cells ⟨[.slice none 0 0, .slice none 0 0, .slice none 0 0, .slice none 0 0]⟩ 32 (0, 0))], [(y, .cells ⟨[.slice G l.1.length z, .slice H l.2.1.length A, .slice I l.2.2.1.length B, .slice t (m.2.set u.toNat c.1).length x]⟩ 32 (0, 0))], Z, aa, ab, ac, ad, ae, af, [(V, .cells ⟨[iv d.1.Mask, .slice S d.1.Stack.length N, .slice T d.1.Queue.Slots.length O, .slice U d.1.Queue.Waiting.length P]⟩ 87 (0, 0))], ag, az, a0] := by rw [@List.length_set _ m.2 u.toNat c.1]; exact bi
  refine WN (BN ?_)
  cases hm
  exact N_loop fun a ha => ⟨_, rfl, cc, bv, ac, az, a0, eu, ev, d8.pk [0, 1, 2, 3, 4, 5, 11, 12], ha.s⟩
 intro _ _ h
 exact h.elim
theorem c_l_heldRouteS (w : World) (d : List Route) (c : Option Addr) (g : Nat) (i : rdS encRoute w d c g) (k : Int) {r : Int} (hm : M.l_heldRouteS d k = some r) :
  Calls Tryz.prog 82 #[.slice c d.length g, iv k] w fun e w' => e = .returned (iv r) ∧ Mem [] w w' [] := by
 unfold M.l_heldRouteS at hm
 refine cE Tryz.func82 ?_
 have M0 := Mem.refl [] w
 refine QA (MW 1 (NB (wR 1 [(0, .slice c d.length g), (1, iv k), (5, iv 0)] w (NO ?_))))
 obtain ⟨C, B, o⟩ := gx_bind hm
 refine G_meet (fun a w' => ∃ (j : Int), C = .inl j ∧ Mem [] w w' [] ∧ Sat Tryz.f82.ntmps [(1, iv j)] a) ?_ ?_
 ·refine GB (G_while (σ := Int × Int) (ρ := (Int) ⊕ (Int)) (fun b a w' => Mem [] w w' [] ∧ Sat Tryz.f82.ntmps [(0, .slice c d.length g), (1, iv b.1), (5, iv b.2)] a) B (fun a ha => ⟨M0.pk [], ha.s⟩) ?_)
  clear hm
  intro b G hm q E f ⟨h, z⟩
  refine G_use z (QB (wR 4 [(0, .slice c d.length g), (1, iv b.1), (5, iv b.2), (9, .bool (decide (b.2 < (d.length : Int))))] f (NO ?_)))
  rcases gx_bif hm with ⟨l, hm⟩ | ⟨l, hm⟩
  ·refine gT l (GK (TN (GS (GB (QB (wR 2 [(0, .slice c d.length g), (1, iv b.1), (5, iv b.2), (12, .slice c d.length g), (13, iv b.2)] f ?_))))))
   obtain ⟨v, t, hm⟩ := gx_bind hm
   refine wV (elemP c (b.2.toNat * 2)) f (eI (i.mem0 h) rfl t) (wV (elemP c (b.2.toNat * 2 + 0)) f (eF 0 (b.2.toNat * 2) 0 (i.mem0 h) t) (wV (iv v.Priority) f (eE false 1 0 (b.2.toNat * 2 + 0) (i.mem0 h) t) (wR 2 [(0, .slice c d.length g), (1, iv b.1), (5, iv b.2), (18, .bool (v.Priority != b.1))] f (NO ?_))))
   rcases gx_bif hm with ⟨m, hm⟩ | ⟨m, hm⟩
   ·refine gT m (QA (wR 1 [(4, iv (-1))] f (ND (BR (TR (TR ?_))))))
    obtain rfl := HS hm
    obtain rfl := q _ rfl
    have hm := o; simp only [Sum.elim_inr] at hm
    refine BR (N_meet_ret (TR ?_))
    cases hm
    exact RA [iv (-1)] (⟨rfl, h.pk []⟩)
   refine gF m (KA (MW 3 (NB (wR 2 [(0, .slice c d.length g), (1, iv (w64 (b.1 + 1))), (5, iv b.2), (21, .slice c d.length g), (22, iv b.2)] f ?_))))
   obtain ⟨x, u, hm⟩ := gx_bind hm
   refine wV (elemP c (b.2.toNat * 2)) f (eI (i.mem0 h) rfl u) (wV (elemP c (b.2.toNat * 2 + 1)) f (eF 1 (b.2.toNat * 2) 1 (i.mem0 h) u) (wV (iv x.Target) f (eE false 1 1 (b.2.toNat * 2 + 1) (i.mem0 h) u) (wR 2 [(0, .slice c d.length g), (1, iv (w64 (b.1 + 1))), (5, iv b.2), (27, .bool (x.Target != (w64 (b.1 + 1))))] f (NO ?_))))
   rcases gx_bif hm with ⟨n, hm⟩ | ⟨n, hm⟩
   ·refine gT n (QA (wR 1 [(4, iv (-1))] f (ND (BR (TR (TR ?_))))))
    obtain rfl := HS hm
    obtain rfl := q _ rfl
    have hm := o; simp only [Sum.elim_inr] at hm
    refine BR (N_meet_ret (TR ?_))
    cases hm
    exact RA [iv (-1)] (⟨rfl, h.pk []⟩)
   refine gF n (GK (TN (GR (MW 3 (NG (wR 3 [(0, .slice c d.length g), (1, iv (w64 ((w64 (b.1 + 1)) + 1))), (5, iv (w64 (b.2 + 1)))] f (WN ?_)))))))
   cases hm
   exact N_loop fun a ha => ⟨_, rfl, h.pk [], ha.s⟩
  refine gF l (XA ?_)
  obtain rfl := HS hm
  obtain rfl := q _ rfl
  exact N_meet fun a ha => ⟨_, rfl, h.pk [], ha.s⟩
 intro F D ⟨j, hout_, y, A⟩
 refine N_use A ?_
 subst hout_
 have hm := o; simp only [Sum.elim_inl] at hm
 refine NF (wR 2 [(4, iv j)] D (NC ?_))
 obtain rfl := HS hm
 exact RA [iv j] (⟨rfl, y.pk []⟩)
theorem c_l_heldBoolS (w : World) (c : List Bool) (d : Option Addr) (f : Nat) (m : rdS Gx.encB w c d f) (j : Int) {r : Int} (hm : M.l_heldBoolS c j = some r) :
  Calls Tryz.prog 83 #[.slice d c.length f, iv j] w fun e w' => e = .returned (iv r) ∧ Mem [] w w' [] := by
 unfold M.l_heldBoolS at hm
 refine cE Tryz.func83 ?_
 have M0 := Mem.refl [] w
 refine QA (MW 1 (NB (wR 1 [(0, .slice d c.length f), (1, iv j), (5, iv 0)] w (NO ?_))))
 obtain ⟨z, y, n⟩ := gx_bind hm
 refine G_meet (fun a w' => ∃ (i : Int), z = .inl i ∧ Mem [] w w' [] ∧ Sat Tryz.f83.ntmps [(1, iv i)] a) ?_ ?_
 ·refine GB (G_while (σ := Int × Int) (ρ := (Int) ⊕ (Int)) (fun b a w' => Mem [] w w' [] ∧ Sat Tryz.f83.ntmps [(0, .slice d c.length f), (1, iv b.1), (5, iv b.2)] a) y (fun a ha => ⟨M0.pk [], ha.s⟩) ?_)
  clear hm
  intro b D hm o B g ⟨h, v⟩
  refine G_use v (QB (wR 4 [(0, .slice d c.length f), (1, iv b.1), (5, iv b.2), (9, .bool (decide (b.2 < (c.length : Int))))] g (NO ?_)))
  rcases gx_bif hm with ⟨k, hm⟩ | ⟨k, hm⟩
  ·refine gT k (GK (TN (GS (GB (QB (wR 2 [(0, .slice d c.length f), (1, iv b.1), (5, iv b.2), (12, .slice d c.length f), (13, iv b.2)] g ?_))))))
   obtain ⟨t, q, hm⟩ := gx_bind hm
   refine wV (elemP d (b.2.toNat * 1)) g (eI (m.mem0 h) rfl q) (wV (.bool t) g (eE false 1 0 (b.2.toNat * 1) (m.mem0 h) q) (wR 4 [(0, .slice d c.length f), (1, iv b.1), (5, iv b.2), (19, .bool (!(t == ((b.1.tmod 3) == 0))))] g (NO ?_)))
   rcases gx_bif hm with ⟨l, hm⟩ | ⟨l, hm⟩
   ·refine gT l (QA (wR 1 [(4, iv (-1))] g (ND (BR (TR (TR ?_))))))
    obtain rfl := HS hm
    obtain rfl := o _ rfl
    have hm := n; simp only [Sum.elim_inr] at hm
    refine BR (N_meet_ret (TR ?_))
    cases hm
    exact RA [iv (-1)] (⟨rfl, h.pk []⟩)
   refine gF l (GK (TN (GR (MW 3 (NG (wR 3 [(0, .slice d c.length f), (1, iv (w64 (b.1 + 1))), (5, iv (w64 (b.2 + 1)))] g (WN ?_)))))))
   cases hm
   exact N_loop fun a ha => ⟨_, rfl, h.pk [], ha.s⟩
  refine gF k (XA ?_)
  obtain rfl := HS hm
  obtain rfl := o _ rfl
  exact N_meet fun a ha => ⟨_, rfl, h.pk [], ha.s⟩
 intro C A ⟨i, hout_, u, x⟩
 refine N_use x ?_
 subst hout_
 have hm := n; simp only [Sum.elim_inl] at hm
 refine NF (wR 2 [(4, iv i)] A (NC ?_))
 obtain rfl := HS hm
 exact RA [iv i] (⟨rfl, u.pk []⟩)
theorem c_l_heldSlotS (w : World) (f : List Slot) (c : Option Addr) (g : Nat) (i : rdS encSlot w f c g) (m : Int) {r : Int} (hm : M.l_heldSlotS f m = some r) :
  Calls Tryz.prog 141 #[.slice c f.length g, iv m] w fun e w' => e = .returned (iv r) ∧ Mem [] w w' [] := by
 unfold M.l_heldSlotS at hm
 refine cE Tryz.func141 ?_
 have M0 := Mem.refl [] w
 refine QA (MW 1 (NB (wR 1 [(0, .slice c f.length g), (1, iv m), (5, iv 0)] w (NO ?_))))
 obtain ⟨F, E, k⟩ := gx_bind hm
 refine G_meet (fun a w' => ∃ (j : Int), F = .inl j ∧ Mem [] w w' [] ∧ Sat Tryz.f141.ntmps [(1, iv j)] a) ?_ ?_
 ·refine GB (G_while (σ := Int × Int) (ρ := (Int) ⊕ (Int)) (fun b a w' => Mem [] w w' [] ∧ Sat Tryz.f141.ntmps [(0, .slice c f.length g), (1, iv b.1), (5, iv b.2)] a) E (fun a ha => ⟨M0.pk [], ha.s⟩) ?_)
  clear hm
  intro b J hm l H d ⟨h, C⟩
  refine G_use C (QB (wR 4 [(0, .slice c f.length g), (1, iv b.1), (5, iv b.2), (9, .bool (decide (b.2 < (f.length : Int))))] d (NO ?_)))
  rcases gx_bif hm with ⟨n, hm⟩ | ⟨n, hm⟩
  ·refine gT n (GK (TN (GS (GB (QB (wR 2 [(0, .slice c f.length g), (1, iv b.1), (5, iv b.2), (12, .slice c f.length g), (13, iv b.2)] d ?_))))))
   obtain ⟨y, u, hm⟩ := gx_bind hm
   refine wV (elemP c (b.2.toNat * 3)) d (eI (i.mem0 h) rfl u) (wV (elemP c (b.2.toNat * 3 + 0)) d (eF 0 (b.2.toNat * 3) 0 (i.mem0 h) u) (wV (iv y.State) d (eE false 1 0 (b.2.toNat * 3 + 0) (i.mem0 h) u) (wR 2 [(0, .slice c f.length g), (1, iv b.1), (5, iv b.2), (18, .bool (y.State != b.1))] d (NO ?_))))
   rcases gx_bif hm with ⟨o, hm⟩ | ⟨o, hm⟩
   ·refine gT o (QA (wR 1 [(4, iv (-1))] d (ND (BR (TR (TR ?_))))))
    obtain rfl := HS hm
    obtain rfl := l _ rfl
    have hm := k; simp only [Sum.elim_inr] at hm
    refine BR (N_meet_ret (TR ?_))
    cases hm
    exact RA [iv (-1)] (⟨rfl, h.pk []⟩)
   refine gF o (KA (MW 3 (NB (wR 2 [(0, .slice c f.length g), (1, iv (w64 (b.1 + 1))), (5, iv b.2), (21, .slice c f.length g), (22, iv b.2)] d ?_))))
   obtain ⟨z, v, hm⟩ := gx_bind hm
   refine wV (elemP c (b.2.toNat * 3)) d (eI (i.mem0 h) rfl v) (wV (elemP c (b.2.toNat * 3 + 1)) d (eF 1 (b.2.toNat * 3) 1 (i.mem0 h) v) (wV (iv z.Irq) d (eE false 1 1 (b.2.toNat * 3 + 1) (i.mem0 h) v) (wR 2 [(0, .slice c f.length g), (1, iv (w64 (b.1 + 1))), (5, iv b.2), (27, .bool (z.Irq != (w64 (b.1 + 1))))] d (NO ?_))))
   rcases gx_bif hm with ⟨q, hm⟩ | ⟨q, hm⟩
   ·refine gT q (QA (wR 1 [(4, iv (-1))] d (ND (BR (TR (TR ?_))))))
    obtain rfl := HS hm
    obtain rfl := l _ rfl
    have hm := k; simp only [Sum.elim_inr] at hm
    refine BR (N_meet_ret (TR ?_))
    cases hm
    exact RA [iv (-1)] (⟨rfl, h.pk []⟩)
   refine gF q (KA (MW 3 (NB (wR 2 [(0, .slice c f.length g), (1, iv (w64 ((w64 (b.1 + 1)) + 1))), (5, iv b.2), (30, .slice c f.length g), (31, iv b.2)] d ?_))))
   obtain ⟨A, x, hm⟩ := gx_bind hm
   refine wV (elemP c (b.2.toNat * 3)) d (eI (i.mem0 h) rfl x) (wV (elemP c (b.2.toNat * 3 + 2)) d (eF 2 (b.2.toNat * 3) 2 (i.mem0 h) x) (wV (iv A.Priority) d (eE false 1 2 (b.2.toNat * 3 + 2) (i.mem0 h) x) (wR 2 [(0, .slice c f.length g), (1, iv (w64 ((w64 (b.1 + 1)) + 1))), (5, iv b.2), (36, .bool (A.Priority != (w64 ((w64 (b.1 + 1)) + 1))))] d (NO ?_))))
   rcases gx_bif hm with ⟨t, hm⟩ | ⟨t, hm⟩
   ·refine gT t (QA (wR 1 [(4, iv (-1))] d (ND (BR (TR (TR ?_))))))
    obtain rfl := HS hm
    obtain rfl := l _ rfl
    have hm := k; simp only [Sum.elim_inr] at hm
    refine BR (N_meet_ret (TR ?_))
    cases hm
    exact RA [iv (-1)] (⟨rfl, h.pk []⟩)
   refine gF t (GK (TN (GR (MW 3 (NG (wR 3 [(0, .slice c f.length g), (1, iv (w64 ((w64 ((w64 (b.1 + 1)) + 1)) + 1))), (5, iv (w64 (b.2 + 1)))] d (WN ?_)))))))
   cases hm
   exact N_loop fun a ha => ⟨_, rfl, h.pk [], ha.s⟩
  refine gF n (XA ?_)
  obtain rfl := HS hm
  obtain rfl := l _ rfl
  exact N_meet fun a ha => ⟨_, rfl, h.pk [], ha.s⟩
 intro I G ⟨j, hout_, B, D⟩
 refine N_use D ?_
 subst hout_
 have hm := k; simp only [Sum.elim_inl] at hm
 refine NF (wR 2 [(4, iv j)] G (NC ?_))
 obtain rfl := HS hm
 exact RA [iv j] (⟨rfl, B.pk []⟩)
theorem c_l_heldWaiterS (w : World) (d : List Waiter) (c : Option Addr) (g : Nat) (i : rdS encWaiter w d c g) (k : Int) {r : Int} (hm : M.l_heldWaiterS d k = some r) :
  Calls Tryz.prog 142 #[.slice c d.length g, iv k] w fun e w' => e = .returned (iv r) ∧ Mem [] w w' [] := by
 unfold M.l_heldWaiterS at hm
 refine cE Tryz.func142 ?_
 have M0 := Mem.refl [] w
 refine QA (MW 1 (NB (wR 1 [(0, .slice c d.length g), (1, iv k), (5, iv 0)] w (NO ?_))))
 obtain ⟨C, B, o⟩ := gx_bind hm
 refine G_meet (fun a w' => ∃ (j : Int), C = .inl j ∧ Mem [] w w' [] ∧ Sat Tryz.f142.ntmps [(1, iv j)] a) ?_ ?_
 ·refine GB (G_while (σ := Int × Int) (ρ := (Int) ⊕ (Int)) (fun b a w' => Mem [] w w' [] ∧ Sat Tryz.f142.ntmps [(0, .slice c d.length g), (1, iv b.1), (5, iv b.2)] a) B (fun a ha => ⟨M0.pk [], ha.s⟩) ?_)
  clear hm
  intro b G hm q E f ⟨h, z⟩
  refine G_use z (QB (wR 4 [(0, .slice c d.length g), (1, iv b.1), (5, iv b.2), (9, .bool (decide (b.2 < (d.length : Int))))] f (NO ?_)))
  rcases gx_bif hm with ⟨l, hm⟩ | ⟨l, hm⟩
  ·refine gT l (GK (TN (GS (GB (QB (wR 2 [(0, .slice c d.length g), (1, iv b.1), (5, iv b.2), (12, .slice c d.length g), (13, iv b.2)] f ?_))))))
   obtain ⟨v, t, hm⟩ := gx_bind hm
   refine wV (elemP c (b.2.toNat * 2)) f (eI (i.mem0 h) rfl t) (wV (elemP c (b.2.toNat * 2 + 0)) f (eF 0 (b.2.toNat * 2) 0 (i.mem0 h) t) (wV (iv v.Irq) f (eE false 1 0 (b.2.toNat * 2 + 0) (i.mem0 h) t) (wR 2 [(0, .slice c d.length g), (1, iv b.1), (5, iv b.2), (18, .bool (v.Irq != b.1))] f (NO ?_))))
   rcases gx_bif hm with ⟨m, hm⟩ | ⟨m, hm⟩
   ·refine gT m (QA (wR 1 [(4, iv (-1))] f (ND (BR (TR (TR ?_))))))
    obtain rfl := HS hm
    obtain rfl := q _ rfl
    have hm := o; simp only [Sum.elim_inr] at hm
    refine BR (N_meet_ret (TR ?_))
    cases hm
    exact RA [iv (-1)] (⟨rfl, h.pk []⟩)
   refine gF m (KA (MW 3 (NB (wR 2 [(0, .slice c d.length g), (1, iv (w64 (b.1 + 1))), (5, iv b.2), (21, .slice c d.length g), (22, iv b.2)] f ?_))))
   obtain ⟨x, u, hm⟩ := gx_bind hm
   refine wV (elemP c (b.2.toNat * 2)) f (eI (i.mem0 h) rfl u) (wV (elemP c (b.2.toNat * 2 + 1)) f (eF 1 (b.2.toNat * 2) 1 (i.mem0 h) u) (wV (iv x.Priority) f (eE false 1 1 (b.2.toNat * 2 + 1) (i.mem0 h) u) (wR 2 [(0, .slice c d.length g), (1, iv (w64 (b.1 + 1))), (5, iv b.2), (27, .bool (x.Priority != (w64 (b.1 + 1))))] f (NO ?_))))
   rcases gx_bif hm with ⟨n, hm⟩ | ⟨n, hm⟩
   ·refine gT n (QA (wR 1 [(4, iv (-1))] f (ND (BR (TR (TR ?_))))))
    obtain rfl := HS hm
    obtain rfl := q _ rfl
    have hm := o; simp only [Sum.elim_inr] at hm
    refine BR (N_meet_ret (TR ?_))
    cases hm
    exact RA [iv (-1)] (⟨rfl, h.pk []⟩)
   refine gF n (GK (TN (GR (MW 3 (NG (wR 3 [(0, .slice c d.length g), (1, iv (w64 ((w64 (b.1 + 1)) + 1))), (5, iv (w64 (b.2 + 1)))] f (WN ?_)))))))
   cases hm
   exact N_loop fun a ha => ⟨_, rfl, h.pk [], ha.s⟩
  refine gF l (XA ?_)
  obtain rfl := HS hm
  obtain rfl := q _ rfl
  exact N_meet fun a ha => ⟨_, rfl, h.pk [], ha.s⟩
 intro F D ⟨j, hout_, y, A⟩
 refine N_use A ?_
 subst hout_
 have hm := o; simp only [Sum.elim_inl] at hm
 refine NF (wR 2 [(4, iv j)] D (NC ?_))
 obtain rfl := HS hm
 exact RA [iv j] (⟨rfl, y.pk []⟩)
theorem c_l_heldInterfaceS (w : World) (d : List Interface) (c : Option Addr) (f : Nat) (X : rdD deepInterface w d c f) (I : Int) {r : Int} (hm : M.l_heldInterfaceS d I = some r) :
  Calls Tryz.prog 84 #[.slice c d.length f, iv I] w fun e w' => e = .returned (iv r) ∧ Mem [] w w' [] := by
 unfold M.l_heldInterfaceS at hm
 refine cE Tryz.func84 ?_
 have M0 := Mem.refl [] w
 refine QA (MW 1 (NB (wR 1 [(0, .slice c d.length f), (1, iv I), (5, iv 0)] w (NO ?_))))
 obtain ⟨ai, ad, z⟩ := gx_bind hm
 refine G_meet (fun a w' => ∃ (B : Int), ai = .inl B ∧ Mem [] w w' [] ∧ Sat Tryz.f84.ntmps [(1, iv B)] a) ?_ ?_
 ·refine GB (G_while (σ := Int × Int) (ρ := (Int) ⊕ (Int)) (fun b a w' => Mem [] w w' [] ∧ Sat Tryz.f84.ntmps [(0, .slice c d.length f), (1, iv b.1), (5, iv b.2)] a) ad (fun a ha => ⟨M0.pk [], ha.s⟩) ?_)
  clear hm
  intro b an hm A ak h ⟨i, Y⟩
  refine G_use Y (QB (wR 4 [(0, .slice c d.length f), (1, iv b.1), (5, iv b.2), (9, .bool (decide (b.2 < (d.length : Int))))] h (NO ?_)))
  rcases gx_bif hm with ⟨J, hm⟩ | ⟨J, hm⟩
  ·refine gT J (GK (TN (GS (GB (QB (wR 2 [(0, .slice c d.length f), (1, iv b.1), (5, iv b.2), (12, .slice c d.length f), (13, iv b.2)] h ?_))))))
   obtain ⟨S, ae, hm⟩ := gx_bind hm
   obtain ⟨ao, o, g, Q⟩ := id X
   obtain ⟨am, P⟩ := gxIdx_fst o ae
   refine wV (elemP c (b.2.toNat * 4)) h (eI (g.mem0 i) (len_fst o) P) (wV (elemP c (b.2.toNat * 4 + 0)) h (eF 0 (b.2.toNat * 4) 0 (g.mem0 i) P) (wV (iv S.Mask) h (eE false 1 0 (b.2.toNat * 4 + 0) (g.mem0 i) P) (wR 2 [(0, .slice c d.length f), (1, iv b.1), (5, iv b.2), (18, .bool (S.Mask != b.1))] h (NO ?_))))
   rcases gx_bif hm with ⟨K, hm⟩ | ⟨K, hm⟩
   ·refine gT K (QA (wR 1 [(4, iv (-1))] h (ND (BR (TR (TR ?_))))))
    obtain rfl := HS hm
    obtain rfl := A _ rfl
    have hm := z; simp only [Sum.elim_inr] at hm
    refine BR (N_meet_ret (TR ?_))
    cases hm
    exact RA [iv (-1)] (⟨rfl, i.pk []⟩)
   refine gF K (KA (MW 3 (NA (wR 2 [(0, .slice c d.length f), (1, iv (w64 (b.1 + 1))), (5, iv b.2), (21, .slice c d.length f), (22, iv b.2)] h ?_))))
   obtain ⟨C, af, hm⟩ := gx_bind hm
   obtain ⟨j, F⟩ := gxIdx_fst o af
   refine wV (elemP c (b.2.toNat * 4)) h (eI (g.mem0 i) (len_fst o) F) (wV (elemP c (b.2.toNat * 4 + 1)) h (eF 1 (b.2.toNat * 4) 1 (g.mem0 i) F) (wV (.slice ((j 0).1) C.Stack.length ((j 0).2)) h (eE false 1 1 (b.2.toNat * 4 + 1) (g.mem0 i) F) (wR 1 [(0, .slice c d.length f), (1, iv (w64 (b.1 + 1))), (5, iv b.2), (25, .slice ((j 0).1) C.Stack.length ((j 0).2)), (26, iv (w64 (b.1 + 1)))] h ?_)))
   obtain ⟨q, aa, hm⟩ := gx_bind hm
   refine WD (c_l_heldIntS h C.Stack ((j 0).1) ((j 0).2) ((Q.mem0 i).at_ F 0 ⟨Int, Gx.encI, C.Stack, (j 0).1, (j 0).2⟩ (by kernel_rfl)) (w64 (b.1 + 1)) aa) i fun m u => MW 1 (NB (wR 2 [(0, .slice c d.length f), (1, iv q), (5, iv b.2), (29, .bool (decide (q < 0)))] m (NO ?_)))
   rcases gx_bif hm with ⟨L, hm⟩ | ⟨L, hm⟩
   ·refine gT L (QA (wR 1 [(4, iv (-1))] m (ND (BR (TR (TR ?_))))))
    obtain rfl := HS hm
    obtain rfl := A _ rfl
    have hm := z; simp only [Sum.elim_inr] at hm
    refine BR (N_meet_ret (TR ?_))
    cases hm
    exact RA [iv (-1)] (⟨rfl, u.pk []⟩)
   refine gF L (KA (wR 2 [(0, .slice c d.length f), (1, iv q), (5, iv b.2), (30, .slice c d.length f), (31, iv b.2)] m ?_))
   obtain ⟨D, ag, hm⟩ := gx_bind hm
   obtain ⟨k, x⟩ := gxIdx_fst o ag
   refine wV (elemP c (b.2.toNat * 4)) m (eI (g.mem0 u) (len_fst o) x) (wV (elemP c (b.2.toNat * 4 + 2)) m (eF 2 (b.2.toNat * 4) 2 (g.mem0 u) x) (wV (elemP c (b.2.toNat * 4 + 2 + 0)) m (eF 0 (b.2.toNat * 4 + 2) 0 (g.mem0 u) x) (wV (.slice ((k 1).1) D.Queue.Slots.length ((k 1).2)) m (eE false 1 2 (b.2.toNat * 4 + 2 + 0) (g.mem0 u) x) (wR 1 [(0, .slice c d.length f), (1, iv q), (5, iv b.2), (35, .slice ((k 1).1) D.Queue.Slots.length ((k 1).2)), (36, iv q)] m ?_))))
   obtain ⟨t, ab, hm⟩ := gx_bind hm
   refine WD (c_l_heldSlotS m D.Queue.Slots ((k 1).1) ((k 1).2) ((Q.mem0 u).at_ x 1 ⟨Slot, encSlot, D.Queue.Slots, (k 1).1, (k 1).2⟩ (by kernel_rfl)) q ab) u fun n v => MW 1 (NB (wR 2 [(0, .slice c d.length f), (1, iv t), (5, iv b.2), (39, .bool (decide (t < 0)))] n (NO ?_)))
   rcases gx_bif hm with ⟨N, hm⟩ | ⟨N, hm⟩
   ·refine gT N (QA (wR 1 [(4, iv (-1))] n (ND (BR (TR (TR ?_))))))
    obtain rfl := HS hm
    obtain rfl := A _ rfl
    have hm := z; simp only [Sum.elim_inr] at hm
    refine BR (N_meet_ret (TR ?_))
    cases hm
    exact RA [iv (-1)] (⟨rfl, v.pk []⟩)
   refine gF N (KA (wR 2 [(0, .slice c d.length f), (1, iv t), (5, iv b.2), (40, .slice c d.length f), (41, iv b.2)] n ?_))
   obtain ⟨E, ah, hm⟩ := gx_bind hm
   obtain ⟨l, y⟩ := gxIdx_fst o ah
   refine wV (elemP c (b.2.toNat * 4)) n (eI (g.mem0 v) (len_fst o) y) (wV (elemP c (b.2.toNat * 4 + 2)) n (eF 2 (b.2.toNat * 4) 2 (g.mem0 v) y) (wV (elemP c (b.2.toNat * 4 + 2 + 1)) n (eF 1 (b.2.toNat * 4 + 2) 1 (g.mem0 v) y) (wV (.slice ((l 2).1) E.Queue.Waiting.length ((l 2).2)) n (eE false 1 3 (b.2.toNat * 4 + 2 + 1) (g.mem0 v) y) (wR 1 [(0, .slice c d.length f), (1, iv t), (5, iv b.2), (45, .slice ((l 2).1) E.Queue.Waiting.length ((l 2).2)), (46, iv t)] n ?_))))
   obtain ⟨G, ac, hm⟩ := gx_bind hm
   refine WD (c_l_heldWaiterS n E.Queue.Waiting ((l 2).1) ((l 2).2) ((Q.mem0 v).at_ y 2 ⟨Waiter, encWaiter, E.Queue.Waiting, (l 2).1, (l 2).2⟩ (by kernel_rfl)) t ac) v fun H R => MW 1 (NA (wR 2 [(0, .slice c d.length f), (1, iv G), (5, iv b.2), (49, .bool (decide (G < 0)))] H (NO ?_)))
   rcases gx_bif hm with ⟨O, hm⟩ | ⟨O, hm⟩
   ·refine gT O (QA (wR 1 [(4, iv (-1))] H (NX ?_)))
    obtain rfl := HS hm
    obtain rfl := A _ rfl
    have hm := z; simp only [Sum.elim_inr] at hm
    refine BR (N_meet_ret (TR ?_))
    cases hm
    exact RA [iv (-1)] (⟨rfl, R.pk []⟩)
   refine gF O (KC (wR 3 [(0, .slice c d.length f), (1, iv G), (5, iv (w64 (b.2 + 1)))] H (WN ?_)))
   cases hm
   exact N_loop fun a ha => ⟨_, rfl, R.pk [], ha.s⟩
  refine gF J (XA ?_)
  obtain rfl := HS hm
  obtain rfl := A _ rfl
  exact N_meet fun a ha => ⟨_, rfl, i.pk [], ha.s⟩
 intro al aj ⟨B, hout_, W, Z⟩
 refine N_use Z ?_
 subst hout_
 have hm := z; simp only [Sum.elim_inl] at hm
 refine NF (wR 2 [(4, iv B)] aj (NC ?_))
 obtain rfl := HS hm
 exact RA [iv B] (⟨rfl, W.pk []⟩)
theorem c_l_heldMachine (w : World) (a : Machine) (l : Option Addr) (h : Nat) (N : rdS encRoute w a.Routes l h) (m : Option Addr) (i : Nat) (O : rdS Gx.encB w a.Enabled m i) (n : Option Addr) (j : Nat) (P : rdS Gx.encB w a.Raised n j) (o : Option Addr) (k : Nat) (Q : rdD deepInterface w a.Cpus o k) (g : Int) {r : Int} (hm : M.l_heldMachine a g = some r) :
  Calls Tryz.prog 29 #[.agg #[.slice l a.Routes.length h, .slice m a.Enabled.length i, .slice n a.Raised.length j, .slice o a.Cpus.length k], iv g] w fun e w' => e = .returned (iv r) ∧ Mem [] w w' [] := by
 unfold M.l_heldMachine at hm
 refine cE Tryz.func29 ?_
 have M0 := Mem.refl [] w
 refine QA (wN (.cells ⟨[.slice l a.Routes.length h, .slice m a.Enabled.length i, .slice n a.Raised.length j, .slice o a.Cpus.length k]⟩ 32 (0, 0)) M0 fun b x C => MW 1 (NA (MW 1 (wV (.slice l a.Routes.length h) x (eL false 1 0 (C.blk 0 rfl)) (wR 1 [(1, iv g), (2, pB b 0), (6, .slice l a.Routes.length h), (7, iv g)] x ?_)))))
 obtain ⟨c, R, hm⟩ := gx_bind hm
 refine WD (c_l_heldRouteS x a.Routes l h (N.mem0 C) g R) C fun q y => MW 1 (NB (wR 2 [(1, iv c), (2, pB b 0), (10, .bool (decide (c < 0)))] q (NO ?_)))
 rcases gx_bif hm with ⟨D, hm⟩ | ⟨D, hm⟩
 ·refine gT D (QA (wR 1 [(4, iv (-1))] q (ND ?_)))
  cases hm
  exact RA [iv (-1)] (⟨rfl, y.pk []⟩)
 refine gF D (KA (MW 1 (wV (.slice m a.Enabled.length i) q (eL false 1 1 (y.blk 0 rfl)) (wR 1 [(1, iv c), (2, pB b 0), (12, .slice m a.Enabled.length i), (13, iv c)] q ?_))))
 obtain ⟨d, S, hm⟩ := gx_bind hm
 refine WD (c_l_heldBoolS q a.Enabled m i (O.mem0 y) c S) y fun t z => MW 1 (NB (wR 2 [(1, iv d), (2, pB b 0), (16, .bool (decide (d < 0)))] t (NO ?_)))
 rcases gx_bif hm with ⟨E, hm⟩ | ⟨E, hm⟩
 ·refine gT E (QA (wR 1 [(4, iv (-1))] t (ND ?_)))
  cases hm
  exact RA [iv (-1)] (⟨rfl, z.pk []⟩)
 refine gF E (KA (MW 1 (wV (.slice n a.Raised.length j) t (eL false 1 2 (z.blk 0 rfl)) (wR 1 [(1, iv d), (2, pB b 0), (18, .slice n a.Raised.length j), (19, iv d)] t ?_))))
 obtain ⟨f, T, hm⟩ := gx_bind hm
 refine WD (c_l_heldBoolS t a.Raised n j (P.mem0 z) d T) z fun u A => MW 1 (NB (wR 2 [(1, iv f), (2, pB b 0), (22, .bool (decide (f < 0)))] u (NO ?_)))
 rcases gx_bif hm with ⟨F, hm⟩ | ⟨F, hm⟩
 ·refine gT F (QA (wR 1 [(4, iv (-1))] u (ND ?_)))
  cases hm
  exact RA [iv (-1)] (⟨rfl, A.pk []⟩)
 refine gF F (KA (MW 1 (wV (.slice o a.Cpus.length k) u (eL false 1 3 (A.blk 0 rfl)) (wR 1 [(1, iv f), (24, .slice o a.Cpus.length k), (25, iv f)] u ?_))))
 obtain ⟨v, U, hm⟩ := gx_bind hm
 refine WD (c_l_heldInterfaceS u a.Cpus o k (Q.mem0 A) f U) A fun B H => MW 1 (NB (wR 2 [(1, iv v), (28, .bool (decide (v < 0)))] B (NO ?_)))
 rcases gx_bif hm with ⟨G, hm⟩ | ⟨G, hm⟩
 ·refine gT G (QA (wR 1 [(4, iv (-1))] B (ND ?_)))
  cases hm
  exact RA [iv (-1)] (⟨rfl, H.pk []⟩)
 refine gF G (KA (wR 2 [(4, iv v)] B (NC ?_)))
 obtain rfl := HS hm
 exact RA [iv v] (⟨rfl, H.pk []⟩)
end Go.Proofs.YtllhajkgkghhdaaGreat
set_option linter.unusedVariables false
set_option maxRecDepth 100000
set_option maxHeartbeats 4000000
namespace Go.Proofs.YtllhajkgkghhdaaGreat
open Go.Gx
theorem c_l_FnExactDrainCpu (w : World) (d : Machine) (N : Option Addr) (I : Nat) (cd : rdS encRoute w d.Routes N I) (O : Option Addr) (J : Nat) (ce : rdS Gx.encB w d.Enabled O J) (P : Option Addr) (K : Nat) (cf : rdS Gx.encB w d.Raised P K) (Q : Option Addr) (L : Nat) (cg : rdD deepInterface w d.Cpus Q L) (n : Int) {r : Bool} (hm : M.l_FnExactDrainCpu d n = some r) :
  Calls Tryz.prog 7 #[.agg #[.slice N d.Routes.length I, .slice O d.Enabled.length J, .slice P d.Raised.length K, .slice Q d.Cpus.length L], iv n] w fun e w' => e = .returned (.bool r) ∧ Mem [] w w' [] := by
 unfold M.l_FnExactDrainCpu at hm
 refine cE Tryz.func7 ?_
 have M0 := Mem.refl [] w
 refine QA (wN (.cells ⟨[.slice N d.Routes.length I, .slice O d.Enabled.length J, .slice P d.Raised.length K, .slice Q d.Cpus.length L]⟩ 26 (0, 0)) M0 fun u ch bg => MW 1 (NA (MW 1 (NA (wV (.agg #[.slice N d.Routes.length I, .slice O d.Enabled.length J, .slice P d.Raised.length K, .slice Q d.Cpus.length L]) ch (eL true 4 0 (bg.blk 0 rfl)) (wR 1 [(1, iv n), (2, pB u 0), (5, iv 1048576), (19, .agg #[.slice N d.Routes.length I, .slice O d.Enabled.length J, .slice P d.Raised.length K, .slice Q d.Cpus.length L]), (20, iv 1048576)] ch ?_))))))
 obtain ⟨fj, hd, hm⟩ := gx_bind hm
 refine WD (c_l_szMachine ch d N I (cd.mem0 bg) O J (ce.mem0 bg) P K (cf.mem0 bg) Q L (cg.mem0 bg) 1048576 hd) bg fun ci a9 => MW 1 (NB (wR 2 [(1, iv n), (2, pB u 0), (23, .bool (decide (fj < 0)))] ci (NO ?_)))
 rcases gx_bif hm with ⟨dj, hm⟩ | ⟨dj, hm⟩
 ·refine gT dj (QA (wR 1 [(4, .bool true)] ci (ND ?_)))
  obtain rfl := HS hm
  exact RA [.bool true] (⟨rfl, a9.pk []⟩)
 refine gF dj (KA (wV (.agg #[.slice N d.Routes.length I, .slice O d.Enabled.length J, .slice P d.Raised.length K, .slice Q d.Cpus.length L]) ci (eL true 4 0 (a9.blk 0 rfl)) ?_))
 obtain ⟨a6, he, hm⟩ := gx_bind hm
 refine WC ((c_l_toMachine ci d N I (cd.mem0 a9) O J (ce.mem0 a9) P K (cf.mem0 a9) Q L (cg.mem0 a9) he).mono ?_)
 rintro e_ fp ⟨et, da, iy, eu, db, iz, ev, dc, i0, ew, dd, i1, i2, rfl, gw, gx, gy, gz, fs⟩
 have b8 := a9.call fs
 refine ⟨_, rfl, ?_⟩
 refine wR 1 [(1, iv n), (2, pB u 0), (26, .agg #[.slice et a6.Routes.length da, .slice eu a6.Enabled.length db, .slice ev a6.Raised.length dc, .slice ew a6.Cpus.length dd]), (27, iv n)] fp ?_
 obtain ⟨b, hf, hm⟩ := gx_bind hm
 refine WC ((c_s_DrainCpu fp a6 et da (gw.r b8 1) eu db (gx.r b8 2) ev dc (gy.r b8 3) ew dd (gz.rd b8 4 (by kernel_rfl) 5 (by kernel_rfl)) n hf).mono ?_)
 rintro e_ ih ⟨af, ab, bu, ag, ac, bv, ah, ad, bw, ai, ae, bx, bz, t, q, b0, rfl, ea, eb, ec, ed, ee, ft⟩
 have ge := b8.call ft
 refine ⟨_, rfl, ?_⟩
 refine wR 4 [(1, iv n), (2, pB u 0), (29, .agg #[.slice af b.1.Routes.length ab, .slice ag b.1.Enabled.length ac, .slice ah b.1.Raised.length ad, .slice ai b.1.Cpus.length ae]), (30, .slice t b.2.1.length q), (31, .bool b.2.2)] ih (wN (.cells ⟨[.slice none 0 0, .slice none 0 0, .slice none 0 0, .slice none 0 0]⟩ 32 (0, 0)) ge fun y je gf => wS true 4 0 (.agg #[.slice af b.1.Routes.length ab, .slice ag b.1.Enabled.length ac, .slice ah b.1.Raised.length ad, .slice ai b.1.Cpus.length ae]) 12 [.slice af b.1.Routes.length ab, .slice ag b.1.Enabled.length ac, .slice ah b.1.Raised.length ad, .slice ai b.1.Cpus.length ae] gf rfl fun e1 bh => wR 2 [(1, iv n), (2, pB u 0), (6, pB y 0), (7, .slice t b.2.1.length q), (8, .bool b.2.2)] e1 (NA (wV (.agg #[.slice N d.Routes.length I, .slice O d.Enabled.length J, .slice P d.Raised.length K, .slice Q d.Cpus.length L]) e1 (eL true 4 0 (bh.blk 0 rfl)) ?_)))
 obtain ⟨g, hg, hm⟩ := gx_bind hm
 refine WC ((c_l_toMachine e1 d N I (cd.mem0 bh) O J (ce.mem0 bh) P K (cf.mem0 bh) Q L (cg.mem0 bh) hg).mono ?_)
 rintro e_ jf ⟨X, T, cv, Y, U, cw, Z, V, cx, aa, W, cy, cz, rfl, ef, eg, eh, ei, fu⟩
 have gg := bh.call fu
 refine ⟨_, rfl, ?_⟩
 refine wN (.cells ⟨[.slice none 0 0, .slice none 0 0, .slice none 0 0, .slice none 0 0]⟩ 32 (0, 0)) gg fun aj jg gh => wS true 4 0 (.agg #[.slice X g.Routes.length T, .slice Y g.Enabled.length U, .slice Z g.Raised.length V, .slice aa g.Cpus.length W]) 18 [.slice X g.Routes.length T, .slice Y g.Enabled.length U, .slice Z g.Raised.length V, .slice aa g.Cpus.length W] gh rfl fun e2 bi => NA (wV (.agg #[.slice X g.Routes.length T, .slice Y g.Enabled.length U, .slice Z g.Raised.length V, .slice aa g.Cpus.length W]) e2 (eL true 4 0 (bi.blk 18 rfl)) (wR 1 [(1, iv n), (2, pB u 0), (6, pB y 0), (7, .slice t b.2.1.length q), (8, .bool b.2.2), (9, pB aj 0), (35, .agg #[.slice X g.Routes.length T, .slice Y g.Enabled.length U, .slice Z g.Raised.length V, .slice aa g.Cpus.length W]), (36, iv n)] e2 ?_))
 obtain ⟨c, hh, hm⟩ := gx_bind hm
 refine WC ((c_i_DrainCpu e2 g X T (ef.r bi 13) Y U (eg.r bi 14) Z V (eh.r bi 15) aa W (ei.rd bi 16 (by kernel_rfl) 17 (by kernel_rfl)) n hh).mono ?_)
 rintro e_ ii ⟨E, A, b1, F, B, b2, G, C, b3, H, D, b4, b5, l, k, bd, rfl, ej, ek, el, em, en, fv⟩
 have gi := bi.call fv
 refine ⟨_, rfl, ?_⟩
 refine wR 4 [(1, iv n), (2, pB u 0), (6, pB y 0), (7, .slice t b.2.1.length q), (8, .bool b.2.2), (9, pB aj 0), (38, .agg #[.slice E c.1.Routes.length A, .slice F c.1.Enabled.length B, .slice G c.1.Raised.length C, .slice H c.1.Cpus.length D]), (39, .slice l c.2.1.length k), (40, .bool c.2.2)] ii (wN (.cells ⟨[.slice none 0 0, .slice none 0 0, .slice none 0 0, .slice none 0 0]⟩ 32 (0, 0)) gi fun o jh gj => wS true 4 0 (.agg #[.slice E c.1.Routes.length A, .slice F c.1.Enabled.length B, .slice G c.1.Raised.length C, .slice H c.1.Cpus.length D]) 25 [.slice E c.1.Routes.length A, .slice F c.1.Enabled.length B, .slice G c.1.Raised.length C, .slice H c.1.Cpus.length D] gj rfl fun c0 am => wR 2 [(1, iv n), (2, pB u 0), (6, pB y 0), (7, .slice t b.2.1.length q), (8, .bool b.2.2), (9, pB aj 0), (10, pB o 0), (11, .slice l c.2.1.length k), (12, .bool c.2.2)] c0 (NE (GS ?_)))
 obtain ⟨fi, g0, gt⟩ := gx_bind hm
 refine G_meet (fun a w' => Mem [] w w' [[(u, .cells ⟨[.slice N d.Routes.length I, .slice O d.Enabled.length J, .slice P d.Raised.length K, .slice Q d.Cpus.length L]⟩ 26 (0, 0))], bu, bv, bw, bx, bz, b0, [(y, .cells ⟨[.slice af b.1.Routes.length ab, .slice ag b.1.Enabled.length ac, .slice ah b.1.Raised.length ad, .slice ai b.1.Cpus.length ae]⟩ 32 (0, 0))], cv, cw, cx, cy, cz, [(aj, .cells ⟨[.slice X g.Routes.length T, .slice Y g.Enabled.length U, .slice Z g.Raised.length V, .slice aa g.Cpus.length W]⟩ 32 (0, 0))], b1, b2, b3, b4, b5, bd, [(o, .cells ⟨[.slice E c.1.Routes.length A, .slice F c.1.Enabled.length B, .slice G c.1.Raised.length C, .slice H c.1.Cpus.length D]⟩ 32 (0, 0))]] ∧ Sat Tryz.f7.ntmps [(1, iv n), (2, pB u 0), (6, pB y 0), (7, .slice t b.2.1.length q), (8, .bool b.2.2), (9, pB aj 0), (10, pB o 0), (11, .slice l c.2.1.length k), (12, .bool c.2.2), (55, .bool fi)] a) ?_ ?_
 ·have hm := g0
  refine GR (wV (.agg #[.slice E c.1.Routes.length A, .slice F c.1.Enabled.length B, .slice G c.1.Raised.length C, .slice H c.1.Cpus.length D]) c0 (eL true 4 0 (am.blk 25 rfl)) (wV (.agg #[.slice af b.1.Routes.length ab, .slice ag b.1.Enabled.length ac, .slice ah b.1.Raised.length ad, .slice ai b.1.Cpus.length ae]) c0 (eL true 4 0 (am.blk 12 rfl)) ?_))
  obtain ⟨h2, hi, hm⟩ := gx_bind hm
  refine WD (c_l_eqMachine c0 c.1 E A (ej.r am 19) F B (ek.r am 20) G C (el.r am 21) H D (em.rd am 22 (by kernel_rfl) 23 (by kernel_rfl)) b.1 af ab (ea.r am 6) ag ac (eb.r am 7) ah ad (ec.r am 8) ai ae (ed.rd am 9 (by kernel_rfl) 10 (by kernel_rfl)) hi) am fun c1 co => wR 2 [(1, iv n), (2, pB u 0), (6, pB y 0), (7, .slice t b.2.1.length q), (8, .bool b.2.2), (9, pB aj 0), (10, pB o 0), (11, .slice l c.2.1.length k), (12, .bool c.2.2), (45, .bool (!h2))] c1 ?_
  rcases gx_bif hm with ⟨dk, hm⟩ | ⟨dk, hm⟩
  ·refine wK 45 true dk (wR 10 [(1, iv n), (2, pB u 0), (6, pB y 0), (7, .slice t b.2.1.length q), (8, .bool b.2.2), (9, pB aj 0), (10, pB o 0), (11, .slice l c.2.1.length k), (12, .bool c.2.2), (55, .bool true)] c1 (WN ?_))
   obtain rfl := HS hm
   exact N_meet fun a ha => ⟨co.pk [0, 6, 7, 8, 9, 10, 11, 12, 13, 14, 15, 16, 17, 18, 19, 20, 21, 22, 23, 24, 25], ha.s⟩
  refine wK 45 false dk (wR 2 [(1, iv n), (2, pB u 0), (6, pB y 0), (7, .slice t b.2.1.length q), (8, .bool b.2.2), (9, pB aj 0), (10, pB o 0), (11, .slice l c.2.1.length k), (12, .bool c.2.2), (45, .bool false), (46, .slice l c.2.1.length k), (47, .slice t b.2.1.length q)] c1 ?_)
  obtain ⟨h3, hj, hm⟩ := gx_bind hm
  refine WD (c_l_eqIntS c1 c.2.1 l k (en.r co 24) b.2.1 t q (ee.r co 11) hj) co fun e3 e7 => wR 3 [(1, iv n), (2, pB u 0), (6, pB y 0), (7, .slice t b.2.1.length q), (8, .bool b.2.2), (9, pB aj 0), (10, pB o 0), (11, .slice l c.2.1.length k), (12, .bool c.2.2), (51, .bool (!h3))] e3 ?_
  rcases gx_bif hm with ⟨dl, hm⟩ | ⟨dl, hm⟩
  ·refine wK 51 true dl (wR 4 [(1, iv n), (2, pB u 0), (6, pB y 0), (7, .slice t b.2.1.length q), (8, .bool b.2.2), (9, pB aj 0), (10, pB o 0), (11, .slice l c.2.1.length k), (12, .bool c.2.2), (55, .bool true)] e3 (WN ?_))
   obtain rfl := HS hm
   exact N_meet fun a ha => ⟨e7.pk [0, 6, 7, 8, 9, 10, 11, 12, 13, 14, 15, 16, 17, 18, 19, 20, 21, 22, 23, 24, 25], ha.s⟩
  refine wK 51 false dl (wR 4 [(1, iv n), (2, pB u 0), (6, pB y 0), (7, .slice t b.2.1.length q), (8, .bool b.2.2), (9, pB aj 0), (10, pB o 0), (11, .slice l c.2.1.length k), (12, .bool c.2.2), (55, .bool (!(c.2.2 == b.2.2)))] e3 (WN ?_))
  obtain rfl := HS hm
  exact N_meet fun a ha => ⟨e7.pk [0, 6, 7, 8, 9, 10, 11, 12, 13, 14, 15, 16, 17, 18, 19, 20, 21, 22, 23, 24, 25], ha.s⟩
 intro ip ij ⟨e8, gq⟩
 refine N_use gq ?_
 have hm := gt
 refine TN ?_
 rcases gx_bif hm with ⟨dm, hm⟩ | ⟨dm, hm⟩
 ·refine gT dm (QA (wR 1 [(4, .bool false)] ij (ND ?_)))
  obtain rfl := HS hm
  exact RA [.bool false] (⟨rfl, e8.pk []⟩)
 refine gF dm (GK (TN (GS (GS ?_))))
 obtain ⟨S, hk, hm⟩ := gx_bind hm
 refine G_sub [(1, iv n), (2, pB u 0), (6, pB y 0), (7, .slice t b.2.1.length q), (8, .bool b.2.2), (9, pB aj 0), (10, pB o 0), (11, .slice l c.2.1.length k), (12, .bool c.2.2), (55, .bool fi)] (by kernel_rfl) (G_dagL 3 [[], [], [1]] [[], [], []] [[], [], []] [[], [], []] [[], [], []] [[], [], []] (fun _ => []) (fun i => ([fun f v s => v = (.agg #[.slice X g.Routes.length T, .slice Y g.Enabled.length U, .slice Z g.Raised.length V, .slice aa g.Cpus.length W] : Value) ∧ s = [], fun f v s => v = (.agg #[.slice N d.Routes.length I, .slice O d.Enabled.length J, .slice P d.Raised.length K, .slice Q d.Cpus.length L] : Value) ∧ s = [], fun f v s => ∃ (au : Option Addr) (ao : Nat) (ay : Seg), ∃ (av : Option Addr) (ap : Nat) (az : Seg), ∃ (aw : Option Addr) (aq : Nat) (a0 : Seg), ∃ (ax : Option Addr) (ar : Nat) (a3 : Seg) (a4 : Seg), v = (.agg #[.slice au S.Routes.length ao, .slice av S.Enabled.length ap, .slice aw S.Raised.length aq, .slice ax S.Cpus.length ar] : Value) ∧ s = (ay ++ (az ++ (a0 ++ (a3 ++ a4)))) ∧ ownS encRoute S.Routes au ao ay ∧ ownS Gx.encB S.Enabled av ap az ∧ ownS Gx.encB S.Raised aw aq a0 ∧ ownD deepInterface S.Cpus ax ar a3 a4] : List ((Nat → Value) → Value → Seg → Prop)).getD i (fun _ _ _ => False)) (fun j f v => ∃ s, (fun i => ([fun f v s => v = (.agg #[.slice X g.Routes.length T, .slice Y g.Enabled.length U, .slice Z g.Raised.length V, .slice aa g.Cpus.length W] : Value) ∧ s = [], fun f v s => v = (.agg #[.slice N d.Routes.length I, .slice O d.Enabled.length J, .slice P d.Raised.length K, .slice Q d.Cpus.length L] : Value) ∧ s = [], fun f v s => ∃ (au : Option Addr) (ao : Nat) (ay : Seg), ∃ (av : Option Addr) (ap : Nat) (az : Seg), ∃ (aw : Option Addr) (aq : Nat) (a0 : Seg), ∃ (ax : Option Addr) (ar : Nat) (a3 : Seg) (a4 : Seg), v = (.agg #[.slice au S.Routes.length ao, .slice av S.Enabled.length ap, .slice aw S.Raised.length aq, .slice ax S.Cpus.length ar] : Value) ∧ s = (ay ++ (az ++ (a0 ++ (a3 ++ a4)))) ∧ ownS encRoute S.Routes au ao ay ∧ ownS Gx.encB S.Enabled av ap az ∧ ownS Gx.encB S.Raised aw aq a0 ∧ ownD deepInterface S.Cpus ax ar a3 a4] : List ((Nat → Value) → Value → Seg → Prop)).getD i (fun _ _ _ => False)) j f v s) [] [0, 2] [2] (fun _ _ _ s h => ⟨s, h⟩) (by kernel_rfl) (by kernel_rfl) (e8.preNil 3) (by kernel_rfl) (by kernel_rfl) (by kernel_rfl) (by kernel_rfl) (allOb_cons ?_ (allOb_cons ?_ (allOb_cons ?_ allOb_nil))) ?_)
 ·intro cr di
  intro R ik e9
  exact wV (.agg #[.slice X g.Routes.length T, .slice Y g.Enabled.length U, .slice Z g.Raised.length V, .slice aa g.Cpus.length W]) ik (eL true 4 0 (e9.blk 13 rfl)) (WN (oE (.agg #[.slice X g.Routes.length T, .slice Y g.Enabled.length U, .slice Z g.Raised.length V, .slice aa g.Cpus.length W]) [] ⟨by kernel_rfl, rfl⟩ e9))
 ·intro cr di
  intro R il fa
  exact wV (.agg #[.slice N d.Routes.length I, .slice O d.Enabled.length J, .slice P d.Raised.length K, .slice Q d.Cpus.length L]) il (eL true 4 0 (fa.blk 0 rfl)) (WN (oE (.agg #[.slice N d.Routes.length I, .slice O d.Enabled.length J, .slice P d.Raised.length K, .slice Q d.Cpus.length L]) [] ⟨by kernel_rfl, rfl⟩ fa))
 ·intro cr di
  intro v1_ hb1_
  obtain ⟨rfl, _⟩ := hb1_
  intro R im b9
  refine WC ((c_l_toMachine im d N I (cd.mem0 b9) O J (ce.mem0 b9) P K (cf.mem0 b9) Q L (cg.mem0 b9) hk).mono ?_)
  rintro e_ ji ⟨au, ao, ay, av, ap, az, aw, aq, a0, ax, ar, a3, a4, rfl, eo, ep, er, es, fy⟩
  refine ⟨_, rfl, ?_⟩
  exact WN (oE (.agg #[.slice au S.Routes.length ao, .slice av S.Enabled.length ap, .slice aw S.Raised.length aq, .slice ax S.Cpus.length ar]) (ay ++ (az ++ (a0 ++ (a3 ++ a4)))) ⟨au, ao, ay, av, ap, az, aw, aq, a0, ax, ar, a3, a4, rfl, rfl, eo, ep, er, es⟩ (Mem.callMid b9 (fy.permF (by simp))))
 intro cr di
 intro v0_ hb0_
 obtain ⟨rfl, _⟩ := hb0_
 intro v2_ hb2_
 obtain ⟨au, ao, ay, av, ap, az, aw, aq, a0, ax, ar, a3, a4, rfl, hs2_, eo, ep, er, es⟩ := hb2_
 intro e4 gk
 have ak : Mem [] w e4 [[(u, .cells ⟨[.slice N d.Routes.length I, .slice O d.Enabled.length J, .slice P d.Raised.length K, .slice Q d.Cpus.length L]⟩ 26 (0, 0))], bu, bv, bw, bx, bz, b0, [(y, .cells ⟨[.slice af b.1.Routes.length ab, .slice ag b.1.Enabled.length ac, .slice ah b.1.Raised.length ad, .slice ai b.1.Cpus.length ae]⟩ 32 (0, 0))], cv, cw, cx, cy, cz, [(aj, .cells ⟨[.slice X g.Routes.length T, .slice Y g.Enabled.length U, .slice Z g.Raised.length V, .slice aa g.Cpus.length W]⟩ 32 (0, 0))], b1, b2, b3, b4, b5, bd, [(o, .cells ⟨[.slice E c.1.Routes.length A, .slice F c.1.Enabled.length B, .slice G c.1.Raised.length C, .slice H c.1.Cpus.length D]⟩ 32 (0, 0))], (cr 2)] := gk
 rw [hs2_] at ak
 replace ak : Mem [] w e4 [[(u, .cells ⟨[.slice N d.Routes.length I, .slice O d.Enabled.length J, .slice P d.Raised.length K, .slice Q d.Cpus.length L]⟩ 26 (0, 0))], bu, bv, bw, bx, bz, b0, [(y, .cells ⟨[.slice af b.1.Routes.length ab, .slice ag b.1.Enabled.length ac, .slice ah b.1.Raised.length ad, .slice ai b.1.Cpus.length ae]⟩ 32 (0, 0))], cv, cw, cx, cy, cz, [(aj, .cells ⟨[.slice X g.Routes.length T, .slice Y g.Enabled.length U, .slice Z g.Raised.length V, .slice aa g.Cpus.length W]⟩ 32 (0, 0))], b1, b2, b3, b4, b5, bd, [(o, .cells ⟨[.slice E c.1.Routes.length A, .slice F c.1.Enabled.length B, .slice G c.1.Raised.length C, .slice H c.1.Cpus.length D]⟩ 32 (0, 0))], ay, az, a0, a3, a4] := ak.permF (by simp)
 obtain ⟨h4, hl, hm⟩ := gx_bind hm
 refine WD (c_l_eqMachine e4 g X T (ef.r ak 8) Y U (eg.r ak 9) Z V (eh.r ak 10) aa W (ei.rd ak 11 (by kernel_rfl) 12 (by kernel_rfl)) S au ao (eo.r ak 21) av ap (ep.r ak 22) aw aq (er.r ak 23) ax ar (es.rd ak 24 (by kernel_rfl) 25 (by kernel_rfl)) hl) ak fun b6 ca => wR 1 [(1, iv n), (2, pB u 0), (6, pB y 0), (7, .slice t b.2.1.length q), (8, .bool b.2.2), (9, pB aj 0), (10, pB o 0), (11, .slice l c.2.1.length k), (12, .bool c.2.2), (60, .bool (!h4))] b6 (NO ?_)
 rcases gx_bif hm with ⟨dn, hm⟩ | ⟨dn, hm⟩
 ·refine gT dn (QA (wR 1 [(4, .bool false)] b6 (ND ?_)))
  obtain rfl := HS hm
  exact RA [.bool false] (⟨rfl, ca.pk []⟩)
 refine gF dn (KA (MW 1 (NA (wV (.agg #[.slice X g.Routes.length T, .slice Y g.Enabled.length U, .slice Z g.Raised.length V, .slice aa g.Cpus.length W]) b6 (eL true 4 0 (ca.blk 13 rfl)) (wR 1 [(1, iv n), (2, pB u 0), (6, pB y 0), (7, .slice t b.2.1.length q), (8, .bool b.2.2), (10, pB o 0), (11, .slice l c.2.1.length k), (12, .bool c.2.2), (13, iv 1), (61, .agg #[.slice X g.Routes.length T, .slice Y g.Enabled.length U, .slice Z g.Raised.length V, .slice aa g.Cpus.length W]), (62, iv 1)] b6 ?_)))))
 obtain ⟨a5, hn, hm⟩ := gx_bind hm
 refine WC ((c_l_markMachine b6 g X T cv ef Y U cw eg Z V cx eh aa W cy cz ei 1 (ca.hasPick [8, 9, 10, 11, 12]) (ca.nodupPick [8, 9, 10, 11, 12] (by kernel_rfl)) hn).mono ?_)
 rintro e_ be ⟨h9, ia, ib, ic, ie, rfl, it, d2, iu, d3, iw, d4, ix, d5, f0⟩
 have gl := ca.callF' [8, 9, 10, 11, 12] [0, 1, 2, 3, 4, 5, 6, 7, 13, 14, 15, 16, 17, 18, 19, 20, 21, 22, 23, 24, 25] (by kernel_rfl) f0
 refine ⟨_, rfl, ?_⟩
 refine wX 61 (.agg #[.slice X g.Routes.length T, .slice Y g.Enabled.length U, .slice Z g.Raised.length V, .slice aa g.Cpus.length W]) (.agg #[.slice X a5.2.1.length T, .slice Y a5.2.2.1.length U, .slice Z a5.2.2.2.1.length V, .slice aa a5.2.2.2.2.length W]) (by first | rw [d2, d3, d4, d5] | rw [d2] | rw [d3] | rw [d4] | rw [d5]) ?_
 have al : Mem [] w be [[(u, .cells ⟨[.slice N d.Routes.length I, .slice O d.Enabled.length J, .slice P d.Raised.length K, .slice Q d.Cpus.length L]⟩ 26 (0, 0))], bu, bv, bw, bx, bz, b0, [(y, .cells ⟨[.slice af b.1.Routes.length ab, .slice ag b.1.Enabled.length ac, .slice ah b.1.Raised.length ad, .slice ai b.1.Cpus.length ae]⟩ 32 (0, 0))], [(aj, .cells ⟨[.slice X a5.2.1.length T, .slice Y a5.2.2.1.length U, .slice Z a5.2.2.2.1.length V, .slice aa a5.2.2.2.2.length W]⟩ 32 (0, 0))], b1, b2, b3, b4, b5, bd, [(o, .cells ⟨[.slice E c.1.Routes.length A, .slice F c.1.Enabled.length B, .slice G c.1.Raised.length C, .slice H c.1.Cpus.length D]⟩ 32 (0, 0))], ay, az, a0, a3, a4, h9, ia, ib, ic, ie] := by rw [d2, d3, d4, d5]; exact gl
 refine wR 1 [(1, iv n), (2, pB u 0), (6, pB y 0), (7, .slice t b.2.1.length q), (8, .bool b.2.2), (10, pB o 0), (11, .slice l c.2.1.length k), (12, .bool c.2.2), (13, iv a5.1)] be (NE (GS ?_))
 obtain ⟨h0, g1, gu⟩ := gx_bind hm
 refine G_meet (fun a w' => Mem [] w w' [[(u, .cells ⟨[.slice N d.Routes.length I, .slice O d.Enabled.length J, .slice P d.Raised.length K, .slice Q d.Cpus.length L]⟩ 26 (0, 0))], bu, bv, bw, bx, bz, b0, [(y, .cells ⟨[.slice af b.1.Routes.length ab, .slice ag b.1.Enabled.length ac, .slice ah b.1.Raised.length ad, .slice ai b.1.Cpus.length ae]⟩ 32 (0, 0))], b1, b2, b3, b4, b5, bd, [(o, .cells ⟨[.slice E c.1.Routes.length A, .slice F c.1.Enabled.length B, .slice G c.1.Raised.length C, .slice H c.1.Cpus.length D]⟩ 32 (0, 0))]] ∧ Sat Tryz.f7.ntmps [(1, iv n), (2, pB u 0), (6, pB y 0), (7, .slice t b.2.1.length q), (8, .bool b.2.2), (10, pB o 0), (11, .slice l c.2.1.length k), (82, .bool h0)] a) ?_ ?_
 ·have hm := g1
  refine GR (wR 3 [(1, iv n), (2, pB u 0), (6, pB y 0), (7, .slice t b.2.1.length q), (8, .bool b.2.2), (10, pB o 0), (11, .slice l c.2.1.length k), (12, .bool c.2.2), (66, .bool (decide (a5.1 < 0)))] be ?_)
  rcases gx_bif hm with ⟨dp, hm⟩ | ⟨dp, hm⟩
  ·refine wK 66 true dp (wR 16 [(1, iv n), (2, pB u 0), (6, pB y 0), (7, .slice t b.2.1.length q), (8, .bool b.2.2), (10, pB o 0), (11, .slice l c.2.1.length k), (82, .bool true)] be (WN ?_))
   obtain rfl := HS hm
   exact N_meet fun a ha => ⟨al.pk [0, 1, 2, 3, 4, 5, 6, 7, 9, 10, 11, 12, 13, 14, 15], ha.s⟩
  refine wK 66 false dp (wV (.agg #[.slice E c.1.Routes.length A, .slice F c.1.Enabled.length B, .slice G c.1.Raised.length C, .slice H c.1.Cpus.length D]) be (eL true 4 0 (al.blk 15 rfl)) (wV (.agg #[.slice af b.1.Routes.length ab, .slice ag b.1.Enabled.length ac, .slice ah b.1.Raised.length ad, .slice ai b.1.Cpus.length ae]) be (eL true 4 0 (al.blk 7 rfl)) ?_))
  obtain ⟨h5, ho, hm⟩ := gx_bind hm
  refine WD (c_l_eqMachine be c.1 E A (ej.r al 9) F B (ek.r al 10) G C (el.r al 11) H D (em.rd al 12 (by kernel_rfl) 13 (by kernel_rfl)) b.1 af ab (ea.r al 1) ag ac (eb.r al 2) ah ad (ec.r al 3) ai ae (ed.rd al 4 (by kernel_rfl) 5 (by kernel_rfl)) ho) al fun c2 cp => wR 3 [(1, iv n), (2, pB u 0), (6, pB y 0), (7, .slice t b.2.1.length q), (8, .bool b.2.2), (10, pB o 0), (11, .slice l c.2.1.length k), (12, .bool c.2.2), (72, .bool (!h5))] c2 ?_
  rcases gx_bif hm with ⟨dq, hm⟩ | ⟨dq, hm⟩
  ·refine wK 72 true dq (wR 10 [(1, iv n), (2, pB u 0), (6, pB y 0), (7, .slice t b.2.1.length q), (8, .bool b.2.2), (10, pB o 0), (11, .slice l c.2.1.length k), (82, .bool true)] c2 (WN ?_))
   obtain rfl := HS hm
   exact N_meet fun a ha => ⟨cp.pk [0, 1, 2, 3, 4, 5, 6, 7, 9, 10, 11, 12, 13, 14, 15], ha.s⟩
  refine wK 72 false dq (wR 2 [(1, iv n), (2, pB u 0), (6, pB y 0), (7, .slice t b.2.1.length q), (8, .bool b.2.2), (10, pB o 0), (11, .slice l c.2.1.length k), (12, .bool c.2.2), (72, .bool false), (73, .slice l c.2.1.length k), (74, .slice t b.2.1.length q)] c2 ?_)
  obtain ⟨h6, hp, hm⟩ := gx_bind hm
  refine WD (c_l_eqIntS c2 c.2.1 l k (en.r cp 14) b.2.1 t q (ee.r cp 6) hp) cp fun e5 fb => wR 3 [(1, iv n), (2, pB u 0), (6, pB y 0), (7, .slice t b.2.1.length q), (8, .bool b.2.2), (10, pB o 0), (11, .slice l c.2.1.length k), (12, .bool c.2.2), (78, .bool (!h6))] e5 ?_
  rcases gx_bif hm with ⟨dr, hm⟩ | ⟨dr, hm⟩
  ·refine wK 78 true dr (wR 4 [(1, iv n), (2, pB u 0), (6, pB y 0), (7, .slice t b.2.1.length q), (8, .bool b.2.2), (10, pB o 0), (11, .slice l c.2.1.length k), (82, .bool true)] e5 (WN ?_))
   obtain rfl := HS hm
   exact N_meet fun a ha => ⟨fb.pk [0, 1, 2, 3, 4, 5, 6, 7, 9, 10, 11, 12, 13, 14, 15], ha.s⟩
  refine wK 78 false dr (wR 4 [(1, iv n), (2, pB u 0), (6, pB y 0), (7, .slice t b.2.1.length q), (8, .bool b.2.2), (10, pB o 0), (11, .slice l c.2.1.length k), (82, .bool (!(c.2.2 == b.2.2)))] e5 (WN ?_))
  obtain rfl := HS hm
  exact N_meet fun a ha => ⟨fb.pk [0, 1, 2, 3, 4, 5, 6, 7, 9, 10, 11, 12, 13, 14, 15], ha.s⟩
 intro iq cj ⟨cb, gr⟩
 refine N_use gr ?_
 have hm := gu
 refine TN ?_
 rcases gx_bif hm with ⟨ds, hm⟩ | ⟨ds, hm⟩
 ·refine gT ds (QA (wR 1 [(4, .bool false)] cj (ND ?_)))
  obtain rfl := HS hm
  exact RA [.bool false] (⟨rfl, cb.pk []⟩)
 refine gF ds (KA (MW 1 (NA (wV (.agg #[.slice E c.1.Routes.length A, .slice F c.1.Enabled.length B, .slice G c.1.Raised.length C, .slice H c.1.Cpus.length D]) cj (eL true 4 0 (cb.blk 14 rfl)) (wR 1 [(1, iv n), (2, pB u 0), (6, pB y 0), (7, .slice t b.2.1.length q), (8, .bool b.2.2), (10, pB o 0), (11, .slice l c.2.1.length k), (14, iv 1), (83, .agg #[.slice E c.1.Routes.length A, .slice F c.1.Enabled.length B, .slice G c.1.Raised.length C, .slice H c.1.Cpus.length D]), (84, iv 1)] cj ?_)))))
 obtain ⟨x, hq, hm⟩ := gx_bind hm
 refine WC ((c_l_markMachine cj c.1 E A b1 ej F B b2 ek G C b3 el H D b4 b5 em 1 (cb.hasPick [8, 9, 10, 11, 12]) (cb.nodupPick [8, 9, 10, 11, 12] (by kernel_rfl)) hq).mono ?_)
 rintro e_ c3 ⟨fk, fl, fm, fn, fo, rfl, fd, d6, fe, d7, ff, d8, fg, d9, f3⟩
 have gm := cb.callF' [8, 9, 10, 11, 12] [0, 1, 2, 3, 4, 5, 6, 7, 13, 14] (by kernel_rfl) f3
 refine ⟨_, rfl, ?_⟩
 refine wX 83 (.agg #[.slice E c.1.Routes.length A, .slice F c.1.Enabled.length B, .slice G c.1.Raised.length C, .slice H c.1.Cpus.length D]) (.agg #[.slice E x.2.1.length A, .slice F x.2.2.1.length B, .slice G x.2.2.2.1.length C, .slice H x.2.2.2.2.length D]) (by first | rw [d6, d7, d8, d9] | rw [d6] | rw [d7] | rw [d8] | rw [d9]) ?_
 have c6 : Mem [] w c3 [[(u, .cells ⟨[.slice N d.Routes.length I, .slice O d.Enabled.length J, .slice P d.Raised.length K, .slice Q d.Cpus.length L]⟩ 26 (0, 0))], bu, bv, bw, bx, bz, b0, [(y, .cells ⟨[.slice af b.1.Routes.length ab, .slice ag b.1.Enabled.length ac, .slice ah b.1.Raised.length ad, .slice ai b.1.Cpus.length ae]⟩ 32 (0, 0))], bd, [(o, .cells ⟨[.slice E x.2.1.length A, .slice F x.2.2.1.length B, .slice G x.2.2.2.1.length C, .slice H x.2.2.2.2.length D]⟩ 32 (0, 0))], fk, fl, fm, fn, fo] := by rw [d6, d7, d8, d9]; exact gm
 refine MW 1 (NA (wR 2 [(1, iv n), (2, pB u 0), (6, pB y 0), (7, .slice t b.2.1.length q), (8, .bool b.2.2), (10, pB o 0), (11, .slice l c.2.1.length k), (14, iv x.1), (86, .slice l c.2.1.length k), (87, iv x.1)] c3 ?_))
 obtain ⟨m, hr, hm⟩ := gx_bind hm
 refine WC ((c_l_markIntS c3 c.2.1 l k bd en x.1 (c6.hasPick [8]) (c6.nodupPick [8] (by kernel_rfl)) hr).mono ?_)
 rintro e_ ck ⟨ig, rfl, fh, cs, f4⟩
 have bj := c6.callF' [8] [0, 1, 2, 3, 4, 5, 6, 7, 9, 10, 11, 12, 13, 14] (by kernel_rfl) f4
 refine ⟨_, rfl, ?_⟩
 refine LY 11 l k cs (LY 86 l k cs (MW 1 (NA (MW 1 (NA (wV (.agg #[.slice E x.2.1.length A, .slice F x.2.2.1.length B, .slice G x.2.2.2.1.length C, .slice H x.2.2.2.2.length D]) ck (eL true 4 0 (bj.blk 8 rfl)) (wR 1 [(1, iv n), (2, pB u 0), (6, pB y 0), (7, .slice t b.2.1.length q), (8, .bool b.2.2), (10, pB o 0), (11, .slice l m.2.length k), (14, iv m.1), (15, iv 1), (89, .agg #[.slice E x.2.1.length A, .slice F x.2.2.1.length B, .slice G x.2.2.2.1.length C, .slice H x.2.2.2.2.length D]), (90, iv 1)] ck ?_)))))))
 obtain ⟨bb, hs, hm⟩ := gx_bind hm
 refine WD (c_l_heldMachine ck (⟨x.2.1, x.2.2.1, x.2.2.2.1, x.2.2.2.2⟩ : Machine) E A (fd.r bj 9) F B (fe.r bj 10) G C (ff.r bj 11) H D (fg.rd bj 12 (by kernel_rfl) 13 (by kernel_rfl)) 1 hs) bj fun cl c7 => MW 1 (NB (wR 2 [(1, iv n), (2, pB u 0), (6, pB y 0), (7, .slice t b.2.1.length q), (8, .bool b.2.2), (10, pB o 0), (11, .slice l m.2.length k), (14, iv m.1), (15, iv bb), (93, .bool (decide (bb < 0)))] cl (NO ?_)))
 rcases gx_bif hm with ⟨dt, hm⟩ | ⟨dt, hm⟩
 ·refine gT dt (QA (wR 1 [(4, .bool false)] cl (ND ?_)))
  obtain rfl := HS hm
  exact RA [.bool false] (⟨rfl, c7.pk []⟩)
 refine gF dt (KA (wR 2 [(1, iv n), (2, pB u 0), (6, pB y 0), (7, .slice t b.2.1.length q), (8, .bool b.2.2), (10, pB o 0), (11, .slice l m.2.length k), (14, iv m.1), (15, iv bb), (94, .slice l m.2.length k), (95, iv bb)] cl ?_))
 obtain ⟨ct, ht, hm⟩ := gx_bind hm
 refine WD (c_l_heldIntS cl m.2 l k (fh.r c7 14) bb ht) c7 fun bf a8 => MW 1 (NB (wR 2 [(1, iv n), (2, pB u 0), (6, pB y 0), (7, .slice t b.2.1.length q), (8, .bool b.2.2), (10, pB o 0), (11, .slice l m.2.length k), (14, iv m.1), (15, iv ct), (98, .bool (decide (ct < 0)))] bf (NO ?_)))
 rcases gx_bif hm with ⟨du, hm⟩ | ⟨du, hm⟩
 ·refine gT du (QA (wR 1 [(4, .bool false)] bf (ND ?_)))
  obtain rfl := HS hm
  exact RA [.bool false] (⟨rfl, a8.pk []⟩)
 refine gF du (KB (wR 3 [(1, iv n), (2, pB u 0), (6, pB y 0), (7, .slice t b.2.1.length q), (8, .bool b.2.2), (10, pB o 0), (11, .slice l m.2.length k), (14, iv m.1), (101, .bool (ct != m.1))] bf (NO ?_)))
 rcases gx_bif hm with ⟨dv, hm⟩ | ⟨dv, hm⟩
 ·refine gT dv (QA (wR 1 [(4, .bool false)] bf (ND ?_)))
  obtain rfl := HS hm
  exact RA [.bool false] (⟨rfl, a8.pk []⟩)
 refine gF dv (KA (wV (.agg #[.slice N d.Routes.length I, .slice O d.Enabled.length J, .slice P d.Raised.length K, .slice Q d.Cpus.length L]) bf (eL true 4 0 (a8.blk 0 rfl)) ?_))
 obtain ⟨a7, hu, hm⟩ := gx_bind hm
 refine WC ((c_l_toMachine bf d N I (cd.mem0 a8) O J (ce.mem0 a8) P K (cf.mem0 a8) Q L (cg.mem0 a8) hu).mono ?_)
 rintro e_ fq ⟨ex, de, i3, ey, df, i4, ez, dg, i5, e0, dh, i6, i7, rfl, g2, g3, g4, g5, f8⟩
 have cc := a8.call f8
 refine ⟨_, rfl, ?_⟩
 refine wR 1 [(6, pB y 0), (7, .slice t b.2.1.length q), (8, .bool b.2.2), (10, pB o 0), (11, .slice l m.2.length k), (14, iv m.1), (104, .agg #[.slice ex a7.Routes.length de, .slice ey a7.Enabled.length df, .slice ez a7.Raised.length dg, .slice e0 a7.Cpus.length dh]), (105, iv n)] fq ?_
 obtain ⟨z, hv, hm⟩ := gx_bind hm
 refine WC ((c_i_DrainCpu fq a7 ex de (g2.r cc 15) ey df (g3.r cc 16) ez dg (g4.r cc 17) e0 dh (g5.rd cc 18 (by kernel_rfl) 19 (by kernel_rfl)) n hv).mono ?_)
 rintro e_ io ⟨bp, bk, i8, bq, bl, i9, br, bm, ja, bs, bn, jb, jc, bt, bo, jd, rfl, g6, g7, g8, g9, hb, f9⟩
 have gn := cc.call f9
 refine ⟨_, rfl, ?_⟩
 refine wR 4 [(6, pB y 0), (7, .slice t b.2.1.length q), (8, .bool b.2.2), (10, pB o 0), (11, .slice l m.2.length k), (14, iv m.1), (107, .agg #[.slice bp z.1.Routes.length bk, .slice bq z.1.Enabled.length bl, .slice br z.1.Raised.length bm, .slice bs z.1.Cpus.length bn]), (108, .slice bt z.2.1.length bo), (109, .bool z.2.2)] io (wN (.cells ⟨[.slice none 0 0, .slice none 0 0, .slice none 0 0, .slice none 0 0]⟩ 32 (0, 0)) gn fun gp jj go => wS true 4 0 (.agg #[.slice bp z.1.Routes.length bk, .slice bq z.1.Enabled.length bl, .slice br z.1.Raised.length bm, .slice bs z.1.Cpus.length bn]) 26 [.slice bp z.1.Routes.length bk, .slice bq z.1.Enabled.length bl, .slice br z.1.Raised.length bm, .slice bs z.1.Cpus.length bn] go rfl fun c4 an => wR 2 [(6, pB y 0), (7, .slice t b.2.1.length q), (8, .bool b.2.2), (10, pB o 0), (11, .slice l m.2.length k), (14, iv m.1), (16, pB gp 0), (17, .slice bt z.2.1.length bo), (18, .bool z.2.2)] c4 (NE (GS ?_)))
 obtain ⟨h1, hc, gv⟩ := gx_bind hm
 refine G_meet (fun a w' => Mem [] w w' [[(o, .cells ⟨[.slice E x.2.1.length A, .slice F x.2.2.1.length B, .slice G x.2.2.2.1.length C, .slice H x.2.2.2.2.length D]⟩ 32 (0, 0))], fk, fl, fm, fn, fo, ig] ∧ Sat Tryz.f7.ntmps [(10, pB o 0), (11, .slice l m.2.length k), (14, iv m.1), (124, .bool h1)] a) ?_ ?_
 ·have hm := hc
  refine GR (wV (.agg #[.slice bp z.1.Routes.length bk, .slice bq z.1.Enabled.length bl, .slice br z.1.Raised.length bm, .slice bs z.1.Cpus.length bn]) c4 (eL true 4 0 (an.blk 26 rfl)) (wV (.agg #[.slice af b.1.Routes.length ab, .slice ag b.1.Enabled.length ac, .slice ah b.1.Raised.length ad, .slice ai b.1.Cpus.length ae]) c4 (eL true 4 0 (an.blk 7 rfl)) ?_))
  obtain ⟨h7, hw, hm⟩ := gx_bind hm
  refine WD (c_l_eqMachine c4 z.1 bp bk (g6.r an 20) bq bl (g7.r an 21) br bm (g8.r an 22) bs bn (g9.rd an 23 (by kernel_rfl) 24 (by kernel_rfl)) b.1 af ab (ea.r an 1) ag ac (eb.r an 2) ah ad (ec.r an 3) ai ae (ed.rd an 4 (by kernel_rfl) 5 (by kernel_rfl)) hw) an fun c5 cq => wR 2 [(7, .slice t b.2.1.length q), (8, .bool b.2.2), (10, pB o 0), (11, .slice l m.2.length k), (14, iv m.1), (17, .slice bt z.2.1.length bo), (18, .bool z.2.2), (114, .bool (!h7))] c5 ?_
  rcases gx_bif hm with ⟨dw, hm⟩ | ⟨dw, hm⟩
  ·refine wK 114 true dw (wR 10 [(10, pB o 0), (11, .slice l m.2.length k), (14, iv m.1), (124, .bool true)] c5 (WN ?_))
   obtain rfl := HS hm
   exact N_meet fun a ha => ⟨cq.pk [8, 9, 10, 11, 12, 13, 14], ha.s⟩
  refine wK 114 false dw (wR 2 [(8, .bool b.2.2), (10, pB o 0), (11, .slice l m.2.length k), (14, iv m.1), (18, .bool z.2.2), (114, .bool false), (115, .slice bt z.2.1.length bo), (116, .slice t b.2.1.length q)] c5 ?_)
  obtain ⟨h8, hx, hm⟩ := gx_bind hm
  refine WD (c_l_eqIntS c5 z.2.1 bt bo (hb.r cq 25) b.2.1 t q (ee.r cq 6) hx) cq fun e6 fc => wR 3 [(8, .bool b.2.2), (10, pB o 0), (11, .slice l m.2.length k), (14, iv m.1), (18, .bool z.2.2), (120, .bool (!h8))] e6 ?_
  rcases gx_bif hm with ⟨dx, hm⟩ | ⟨dx, hm⟩
  ·refine wK 120 true dx (wR 4 [(10, pB o 0), (11, .slice l m.2.length k), (14, iv m.1), (124, .bool true)] e6 (WN ?_))
   obtain rfl := HS hm
   exact N_meet fun a ha => ⟨fc.pk [8, 9, 10, 11, 12, 13, 14], ha.s⟩
  refine wK 120 false dx (wR 4 [(10, pB o 0), (11, .slice l m.2.length k), (14, iv m.1), (124, .bool (!(z.2.2 == b.2.2)))] e6 (WN ?_))
  obtain rfl := HS hm
  exact N_meet fun a ha => ⟨fc.pk [8, 9, 10, 11, 12, 13, 14], ha.s⟩
 intro ir cm ⟨ba, gs⟩
 refine N_use gs ?_
 have hm := gv
 refine TN ?_
 rcases gx_bif hm with ⟨dy, hm⟩ | ⟨dy, hm⟩
 ·refine gT dy (QA (wR 1 [(4, .bool false)] cm (ND ?_)))
  obtain rfl := HS hm
  exact RA [.bool false] (⟨rfl, ba.pk []⟩)
 refine gF dy (KA (MW 1 (NA (wV (.agg #[.slice E x.2.1.length A, .slice F x.2.2.1.length B, .slice G x.2.2.2.1.length C, .slice H x.2.2.2.2.length D]) cm (eL true 4 0 (ba.blk 0 rfl)) (wR 1 [(11, .slice l m.2.length k), (14, iv m.1), (15, iv 1), (125, .agg #[.slice E x.2.1.length A, .slice F x.2.2.1.length B, .slice G x.2.2.2.1.length C, .slice H x.2.2.2.2.length D]), (126, iv 1)] cm ?_)))))
 obtain ⟨bc, hy, hm⟩ := gx_bind hm
 refine WD (c_l_heldMachine cm (⟨x.2.1, x.2.2.1, x.2.2.2.1, x.2.2.2.2⟩ : Machine) E A (fd.r ba 1) F B (fe.r ba 2) G C (ff.r ba 3) H D (fg.rd ba 4 (by kernel_rfl) 5 (by kernel_rfl)) 1 hy) ba fun cn c8 => MW 1 (NB (wR 2 [(11, .slice l m.2.length k), (14, iv m.1), (15, iv bc), (129, .bool (decide (bc < 0)))] cn (NO ?_)))
 rcases gx_bif hm with ⟨dz, hm⟩ | ⟨dz, hm⟩
 ·refine gT dz (QA (wR 1 [(4, .bool false)] cn (ND ?_)))
  obtain rfl := HS hm
  exact RA [.bool false] (⟨rfl, c8.pk []⟩)
 refine gF dz (KA (wR 2 [(14, iv m.1), (15, iv bc), (130, .slice l m.2.length k), (131, iv bc)] cn ?_))
 obtain ⟨cu, hz, hm⟩ := gx_bind hm
 refine WD (c_l_heldIntS cn m.2 l k (fh.r c8 6) bc hz) c8 fun b7 c9 => MW 1 (NB (wR 2 [(14, iv m.1), (15, iv cu), (134, .bool (decide (cu < 0)))] b7 (NO ?_)))
 rcases gx_bif hm with ⟨d0, hm⟩ | ⟨d0, hm⟩
 ·refine gT d0 (QA (wR 1 [(4, .bool false)] b7 (ND ?_)))
  obtain rfl := HS hm
  exact RA [.bool false] (⟨rfl, c9.pk []⟩)
 refine gF d0 (KB (wR 3 [(137, .bool (cu != m.1))] b7 (NO ?_)))
 rcases gx_bif hm with ⟨d1, hm⟩ | ⟨d1, hm⟩
 ·refine gT d1 (QA (wR 1 [(4, .bool false)] b7 (ND ?_)))
  obtain rfl := HS hm
  exact RA [.bool false] (⟨rfl, c9.pk []⟩)
 refine gF d1 (KA (wR 1 [(4, .bool true)] b7 (NC ?_)))
 obtain rfl := HS hm
 exact RA [.bool true] (⟨rfl, c9.pk []⟩)
end Go.Proofs.YtllhajkgkghhdaaGreat
set_option linter.unusedVariables false
set_option linter.unusedSimpArgs false
namespace Go.Gx
theorem w64_id {z : Int} (h1 : -9223372036854775808 ≤ z) (h2 : z ≤ 9223372036854775807) : w64 z = z := by
  unfold w64
  simp [IntKind.wrap, IntKind.bits, IntKind.signed, Int.bmod]
  omega
theorem while_for {σ ρ : Type} {body : σ → Option (σ ⊕ ρ)} (st : Nat → σ) (r : ρ) : ∀ (n k fuel : Nat), (∀ i, k ≤ i → i < k + n → body (st i) = some (.inl (st (i + 1)))) → body (st (k + n)) = some (.inr r) → n < fuel → whileM body fuel (st k) = some r
  | 0, k, fuel, _, he, hf => by
    obtain ⟨m, rfl⟩ : ∃ m, fuel = m + 1 := ⟨fuel - 1, by omega⟩
    rw [Nat.add_zero] at he
    simp only [whileM, he]
  | n + 1, k, fuel, h, he, hf => by
    obtain ⟨m, rfl⟩ : ∃ m, fuel = m + 1 := ⟨fuel - 1, by omega⟩
    simp only [whileM, h k (Nat.le_refl _) (by omega)]
    exact while_for st r n (k + 1) m (fun i h1 h2 => h i (by omega) (by omega)) (by rw [show k + 1 + n = k + (n + 1) by omega]; exact he) (by omega)
theorem while_run {σ ρ : Type} {body : σ → Option (σ ⊕ ρ)} {s0 : σ} (st : Nat → σ) (r : ρ) (n : Nat) (h0 : s0 = st 0) (hn : n ≤ 4611686018427387904) (h : ∀ i, i < n → body (st i) = some (.inl (st (i + 1)))) (he : body (st n) = some (.inr r)) : whileM body gxFuel s0 = some r := by
  rw [h0]
  exact while_for st r n 0 gxFuel (fun i _ h2 => h i (by omega)) (by rw [Nat.zero_add]; exact he) (by unfold gxFuel; omega)
theorem gxIdx_nat {α : Type} {xs : List α} {i : Nat} (h : i < xs.length) : gxIdx xs (i : Int) = some xs[i] := by
  unfold gxIdx
  rw [if_pos (by omega), Int.toNat_natCast, List.getElem?_eq_getElem h]
theorem w64_succ {i : Nat} (h : i ≤ 4611686018427387904) : w64 ((i : Int) + 1) = ((i + 1 : Nat) : Int) := by
  rw [w64_id (by omega) (by omega)]; omega
def marks (k n : Nat) : List Int := (List.range n).map fun i => ((k + i : Nat) : Int)
theorem marks_length (k n : Nat) : (marks k n).length = n := by simp [marks]
theorem marks_get {k n i : Nat} (h : i < (marks k n).length) : (marks k n)[i] = ((k + i : Nat) : Int) := by simp [marks]
def marked (k : Nat) (xs : List Int) (i : Nat) : List Int := marks k i ++ xs.drop i
theorem marked_length {k : Nat} {xs : List Int} {i : Nat} (h : i ≤ xs.length) : (marked k xs i).length = xs.length := by
  simp [marked, marks_length]; omega
theorem marked_set {k : Nat} {xs : List Int} {i : Nat} (h : i < xs.length) : (marked k xs i).set i ((k + i : Nat) : Int) = marked k xs (i + 1) := by
  unfold marked
  rw [List.set_append_right _ _ (by simp [marks_length]), marks_length, Nat.sub_self, List.drop_eq_getElem_cons h, List.set_cons_zero]
  unfold marks
  rw [List.range_succ, List.map_append, List.append_assoc]
  rfl
theorem marked_all {k : Nat} {xs : List Int} : marked k xs xs.length = marks k xs.length := by simp [marked]
theorem marked_zero {k : Nat} {xs : List Int} : marked k xs 0 = xs := by simp [marked, marks]
def taken {α : Type} (xs : List α) (z : α) (i : Nat) : List α := xs.take i ++ List.replicate (xs.length - i) z
theorem taken_length {α : Type} {xs : List α} {z : α} {i : Nat} (h : i ≤ xs.length) : (taken xs z i).length = xs.length := by
  simp [taken]; omega
theorem taken_set {α : Type} {xs : List α} {z : α} {i : Nat} (h : i < xs.length) : (taken xs z i).set i xs[i] = taken xs z (i + 1) := by
  unfold taken
  have h1 : (xs.take i).length = i := by simp; omega
  rw [List.set_append_right _ _ (by omega), h1, Nat.sub_self, show xs.length - i = (xs.length - (i + 1)) + 1 by omega, List.replicate_succ, List.set_cons_zero, List.take_add_one, List.getElem?_eq_getElem h, List.append_assoc]
  rfl
theorem taken_all {α : Type} {xs : List α} {z : α} : taken xs z xs.length = xs := by simp [taken]
theorem taken_zero {α : Type} {xs : List α} {z : α} : taken xs z 0 = List.replicate xs.length z := by simp [taken]
theorem gxMake_nat {α : Type} {B : Nat} {n : Nat} {z : α} (h : n * B ≤ 140737488355328) : gxMake B (n : Int) z = some (List.replicate n z) := by
  unfold gxMake
  rw [if_pos ⟨by omega, by rw [← Int.natCast_mul]; omega⟩, Int.toNat_natCast]
theorem gxApp_ok {α : Type} {B : Nat} {xs ys : List α} (h : (xs.length + ys.length) * B ≤ 140737488355328) : gxApp B xs ys = some (xs ++ ys) := by
  unfold gxApp
  rw [if_pos h]
def okI (n : Int) : Prop := -9223372036854775808 ≤ n ∧ n ≤ 9223372036854775807
def okB (_ : Bool) : Prop := True
def okS (s : ByteArray) : Prop := s.size ≤ maxLen
def okL {α : Type} (ok : α → Prop) (xs : List α) : Prop := xs.length ≤ 9223372036854775807 ∧ ∀ x ∈ xs, ok x
end Go.Gx
set_option linter.unusedVariables false
set_option linter.unusedSimpArgs false
set_option maxHeartbeats 4000000
namespace Go.Proofs.YtllhajkgkghhdaaGreat
open Go.Gx
theorem s_in (x a b : Int) : M.s_l1In x a b = some (decide (a ≤ x) && decide (x ≤ b)) := by
  unfold M.s_l1In
  by_cases h : x ≥ a <;> simp [h]
theorem i_in (x a b : Int) : M.i_inside x a b = some (decide (a ≤ x) && decide (x ≤ b)) := by
  unfold M.i_inside
  by_cases h : x ≥ a <;> simp [h]
theorem while_first {σ ρ : Type} {body : σ → Option (σ ⊕ ρ)} {s0 : σ} (st : Nat → σ) (p : Nat → Bool) (hit : Nat → ρ) (r : ρ) (n : Nat) (h0 : s0 = st 0) (hn : n ≤ 4611686018427387904) (h : ∀ i, i < n → body (st i) = some (bif p i then .inr (hit i) else .inl (st (i + 1)))) (he : body (st n) = some (.inr r)) :
    whileM body gxFuel s0 = some (match (List.range n).find? p with
      | some i => hit i
      | none => r) := by
  cases hf : (List.range n).find? p with
  | none =>
    rw [List.find?_eq_none] at hf
    refine while_run st r n h0 hn (fun i hi => ?_) he
    have : p i = false := by
      have := hf i (List.mem_range.2 hi)
      simpa using this
    rw [h i hi, this]
    rfl
  | some i =>
    rw [List.find?_range_eq_some] at hf
    obtain ⟨h1, h2, h3⟩ := hf
    have hi : i < n := List.mem_range.1 h2
    refine while_run st (hit i) i h0 (by omega) (fun j hj => ?_) (by rw [h i hi, h1]; rfl)
    have : p j = false := by
      have := h3 j hj
      simpa using this
    rw [h j (by omega), this]
    rfl
theorem while_all {σ ρ : Type} {body : σ → Option (σ ⊕ ρ)} {s0 : σ} (st : Nat → σ) (ok : Nat → Bool) (bad r : ρ) (n : Nat) (h0 : s0 = st 0) (hn : n ≤ 4611686018427387904) (h : ∀ i, i < n → body (st i) = some (bif ok i then .inl (st (i + 1)) else .inr bad)) (he : body (st n) = some (.inr r)) :
    whileM body gxFuel s0 = some (bif (List.range n).all ok then r else bad) := by
  rw [while_first st (fun i => !(ok i)) (fun _ => bad) r n h0 hn (fun i hi => by rw [h i hi]; cases ok i <;> rfl) he]
  cases hf : (List.range n).find? (fun i => !(ok i)) with
  | none =>
    rw [List.find?_eq_none] at hf
    have : (List.range n).all ok = true := List.all_eq_true.2 fun i hi => by simpa using hf i hi
    rw [this]
    rfl
  | some i =>
    have h1 := List.find?_some hf
    have h2 := List.mem_of_find?_eq_some hf
    have : (List.range n).all ok = false := by
      rw [List.all_eq_false]
      exact ⟨i, h2, by simpa using h1⟩
    rw [this]
    rfl
theorem getD_at {α : Type} {xs : List α} {i : Nat} {z : α} (h : i < xs.length) : xs.getD i z = xs[i] := by
  rw [List.getD_eq_getElem?_getD, List.getElem?_eq_getElem h]; rfl
theorem eqIntS_refl (xs : List Int) (h : xs.length ≤ 4611686018427387904) : M.l_eqIntS xs xs = some true := by
  unfold M.l_eqIntS
  rw [while_run (fun i => (i : Int)) (Sum.inl ()) xs.length (by simp) h]
  · simp
  · intro i hi
    have h1 : ((i : Int) < (xs.length : Int)) := by omega
    simp [h1, gxIdx_nat hi, w64_succ (show i ≤ 4611686018427387904 by omega)]
  · simp
theorem toIntS_id (xs : List Int) (h : xs.length ≤ 1099511627776) : M.l_toIntS xs = some xs := by
  unfold M.l_toIntS
  rw [gxMake_nat (by omega), Option.bind_some, while_run (fun i => ((i : Int), taken xs 0 i)) xs xs.length (by simp [taken_zero]) (by omega)]
  · rfl
  · intro i hi
    have h1 : ((i : Int) < (xs.length : Int)) := by omega
    have h2 : i < (taken xs 0 i).length := by rw [taken_length (by omega)]; exact hi
    simp [h1, gxIdx_nat hi, gxIdx_nat h2, w64_succ (show i ≤ 4611686018427387904 by omega), taken_set hi]
  · simp [taken_all]
theorem markIntS_ok (xs : List Int) (k : Nat) (h : k + xs.length ≤ 1099511627776) : M.l_markIntS xs k = some (((k + xs.length : Nat) : Int), marks k xs.length) := by
  unfold M.l_markIntS
  rw [while_run (fun i => (((k + i : Nat) : Int), (i : Int), marked k xs i)) (((k + xs.length : Nat) : Int), marks k xs.length) xs.length (by simp [marked_zero]) (by omega)]
  · rfl
  · intro i hi
    have h0 : (marked k xs i).length = xs.length := marked_length (by omega)
    have h1 : ((i : Int) < (xs.length : Int)) := by omega
    have h2 : i < (marked k xs i).length := by omega
    simp only [h0, h1, gxIdx_nat h2, decide_true, cond_true, Option.bind_some, Int.toNat_natCast, marked_set hi, w64_succ (show i ≤ 4611686018427387904 by omega), w64_succ (show k + i ≤ 4611686018427387904 by omega)]
    rfl
  · have h0 : (marked k xs xs.length).length = xs.length := marked_length (by omega)
    simp [marked_all, marks_length]
theorem heldIntS_ok (k n : Nat) (h : k + n ≤ 1099511627776) : M.l_heldIntS (marks k n) k = some ((k + n : Nat) : Int) := by
  unfold M.l_heldIntS
  rw [while_run (fun i => (((k + i : Nat) : Int), (i : Int))) (Sum.inl ((k + n : Nat) : Int)) n (by simp) (by omega)]
  · rfl
  · intro i hi
    have h1 : ((i : Int) < (n : Int)) := by omega
    have h2 : i < (marks k n).length := by rw [marks_length]; exact hi
    simp only [marks_length, h1, gxIdx_nat h2, marks_get, decide_true, cond_true, Option.bind_some, bne_self_eq_false, cond_false, w64_succ (show i ≤ 4611686018427387904 by omega), w64_succ (show k + i ≤ 4611686018427387904 by omega)]
    rfl
  · simp [marks_length]
theorem markIntS_held (xs : List Int) (k : Nat) (h : k + xs.length ≤ 1099511627776) : ∃ (n : Nat) (m : List Int), M.l_markIntS xs k = some ((n : Int), m) ∧ M.l_heldIntS m k = some (n : Int) ∧ k ≤ n ∧ n = k + xs.length :=
  ⟨k + xs.length, marks k xs.length, markIntS_ok xs k h, heldIntS_ok k xs.length h, by omega, rfl⟩
def bmark (k : Nat) : Bool := ((k : Int).tmod 3) == 0
def bmarks (k n : Nat) : List Bool := (List.range n).map fun i => bmark (k + i)
theorem bmarks_length (k n : Nat) : (bmarks k n).length = n := by simp [bmarks]
theorem bmarks_get {k n i : Nat} (h : i < (bmarks k n).length) : (bmarks k n)[i] = bmark (k + i) := by simp [bmarks]
def bmarked (k : Nat) (xs : List Bool) (i : Nat) : List Bool := bmarks k i ++ xs.drop i
theorem bmarked_length {k : Nat} {xs : List Bool} {i : Nat} (h : i ≤ xs.length) : (bmarked k xs i).length = xs.length := by
  simp [bmarked, bmarks_length]; omega
theorem bmarked_set {k : Nat} {xs : List Bool} {i : Nat} (h : i < xs.length) : (bmarked k xs i).set i (bmark (k + i)) = bmarked k xs (i + 1) := by
  unfold bmarked
  rw [List.set_append_right _ _ (by simp [bmarks_length]), bmarks_length, Nat.sub_self, List.drop_eq_getElem_cons h, List.set_cons_zero]
  unfold bmarks
  rw [List.range_succ, List.map_append, List.append_assoc]
  rfl
theorem eqBoolS_refl (xs : List Bool) (h : xs.length ≤ 4611686018427387904) : M.l_eqBoolS xs xs = some true := by
  unfold M.l_eqBoolS
  rw [while_run (fun i => (i : Int)) (Sum.inl ()) xs.length (by simp) h]
  · simp
  · intro i hi
    have h1 : ((i : Int) < (xs.length : Int)) := by omega
    simp [h1, gxIdx_nat hi, w64_succ (show i ≤ 4611686018427387904 by omega)]
  · simp
theorem toBoolS_id (xs : List Bool) (h : xs.length ≤ 1099511627776) : M.l_toBoolS xs = some xs := by
  unfold M.l_toBoolS
  rw [gxMake_nat (by omega), Option.bind_some, while_run (fun i => ((i : Int), taken xs false i)) xs xs.length (by simp [taken_zero]) (by omega)]
  · rfl
  · intro i hi
    have h1 : ((i : Int) < (xs.length : Int)) := by omega
    have h2 : i < (taken xs false i).length := by rw [taken_length (by omega)]; exact hi
    simp [h1, gxIdx_nat hi, gxIdx_nat h2, w64_succ (show i ≤ 4611686018427387904 by omega), taken_set hi]
  · simp [taken_all]
theorem markBoolS_ok (xs : List Bool) (k : Nat) (h : k + xs.length ≤ 1099511627776) : M.l_markBoolS xs k = some (((k + xs.length : Nat) : Int), bmarks k xs.length) := by
  unfold M.l_markBoolS
  rw [while_run (fun i => (((k + i : Nat) : Int), (i : Int), bmarked k xs i)) (((k + xs.length : Nat) : Int), bmarks k xs.length) xs.length (by simp [bmarked, bmarks]) (by omega)]
  · rfl
  · intro i hi
    have h0 : (bmarked k xs i).length = xs.length := bmarked_length (by omega)
    have h1 : ((i : Int) < (xs.length : Int)) := by omega
    have h2 : i < (bmarked k xs i).length := by omega
    have h3 := bmarked_set (k := k) hi
    unfold bmark at h3
    simp only [h0, h1, gxIdx_nat h2, decide_true, cond_true, Option.bind_some, Int.toNat_natCast, h3, w64_succ (show i ≤ 4611686018427387904 by omega), w64_succ (show k + i ≤ 4611686018427387904 by omega)]
    rfl
  · simp [bmarked, bmarks_length]
theorem heldBoolS_ok (k n : Nat) (h : k + n ≤ 1099511627776) : M.l_heldBoolS (bmarks k n) k = some ((k + n : Nat) : Int) := by
  unfold M.l_heldBoolS
  rw [while_run (fun i => (((k + i : Nat) : Int), (i : Int))) (Sum.inl ((k + n : Nat) : Int)) n (by simp) (by omega)]
  · rfl
  · intro i hi
    have h1 : ((i : Int) < (n : Int)) := by omega
    have h2 : i < (bmarks k n).length := by rw [bmarks_length]; exact hi
    simp only [bmarks_length, h1, gxIdx_nat h2, bmarks_get, bmark, decide_true, cond_true, Option.bind_some, beq_self_eq_true, Bool.not_true, cond_false, w64_succ (show i ≤ 4611686018427387904 by omega), w64_succ (show k + i ≤ 4611686018427387904 by omega)]
    rfl
  · simp [bmarks_length]
def gmk {α : Type} (f : α → Nat → Nat × α) : List α → Nat → Nat × List α
  | [], k => (k, [])
  | x :: r, k => ((gmk f r (f x k).1).1, (f x k).2 :: (gmk f r (f x k).1).2)
theorem gmk_app {α : Type} {f : α → Nat → Nat × α} : ∀ (a b : List α) (k : Nat), gmk f (a ++ b) k = ((gmk f b (gmk f a k).1).1, (gmk f a k).2 ++ (gmk f b (gmk f a k).1).2)
  | [], b, k => rfl
  | x :: r, b, k => by simp only [List.cons_append, gmk, gmk_app r b]
theorem gmk_len {α : Type} {f : α → Nat → Nat × α} : ∀ (a : List α) (k : Nat), (gmk f a k).2.length = a.length
  | [], k => rfl
  | x :: r, k => by simp only [gmk, List.length_cons, gmk_len r]
theorem gmk_succ {α : Type} {f : α → Nat → Nat × α} {xs : List α} {i : Nat} (h : i < xs.length) (k : Nat) : gmk f (xs.take (i + 1)) k = ((f xs[i] (gmk f (xs.take i) k).1).1, (gmk f (xs.take i) k).2 ++ [(f xs[i] (gmk f (xs.take i) k).1).2]) := by
  rw [List.take_add_one, List.getElem?_eq_getElem h, Option.toList_some, gmk_app]
  rfl
theorem gmk_mono {α : Type} {f : α → Nat → Nat × α} (hf : ∀ x k, k ≤ (f x k).1) : ∀ (a : List α) (k : Nat), k ≤ (gmk f a k).1
  | [], k => Nat.le_refl _
  | x :: r, k => Nat.le_trans (hf x k) (gmk_mono hf r _)
theorem gmk_take_le {α : Type} {f : α → Nat → Nat × α} (hf : ∀ x k, k ≤ (f x k).1) (xs : List α) (k i : Nat) : (gmk f (xs.take i) k).1 ≤ (gmk f xs k).1 := by
  have : gmk f xs k = gmk f (xs.take i ++ xs.drop i) k := by rw [List.take_append_drop]
  rw [this, gmk_app]
  exact gmk_mono hf _ _
theorem gmk_get {α : Type} {f : α → Nat → Nat × α} {xs : List α} {i : Nat} (h : i < xs.length) (k : Nat) (h2 : i < (gmk f xs k).2.length) : (gmk f xs k).2[i] = (f xs[i] (gmk f (xs.take i) k).1).2 := by
  have e : gmk f xs k = gmk f (xs.take (i + 1) ++ xs.drop (i + 1)) k := by rw [List.take_append_drop]
  have h3 : (gmk f xs k).2 = (gmk f (xs.take i) k).2 ++ ([(f xs[i] (gmk f (xs.take i) k).1).2] ++ (gmk f (xs.drop (i + 1)) (gmk f (xs.take (i + 1)) k).1).2) := by
    rw [e, gmk_app, gmk_succ h]
    simp
  have hl : (gmk f (xs.take i) k).2.length = i := by rw [gmk_len]; simp; omega
  have : (gmk f xs k).2[i]? = some (f xs[i] (gmk f (xs.take i) k).1).2 := by
    rw [h3, List.getElem?_append_right (by omega), hl, Nat.sub_self]
    rfl
  rw [List.getElem?_eq_getElem h2] at this
  exact Option.some.inj this
theorem mark_run {α : Type} (f : α → Nat → Nat × α) {xs : List α} {k : Nat} {body : Int × Int × List α → Option ((Int × Int × List α) ⊕ (Int × List α))} (hf : ∀ x k, k ≤ (f x k).1) (hb : (gmk f xs k).1 ≤ 1099511627776) (hl : xs.length ≤ 1099511627776)
    (h : ∀ (i : Nat) (hi : i < xs.length) (K : Nat) (L : List α) (hL : i < L.length), (f xs[i] K).1 ≤ 1099511627776 → L[i] = xs[i] → L.length = xs.length → body ((K : Int), (i : Int), L) = some (.inl (((f xs[i] K).1 : Int), w64 ((i : Int) + 1), L.set i (f xs[i] K).2)))
    (he : ∀ (K : Int) (L : List α), L.length = xs.length → body (K, (xs.length : Int), L) = some (.inr (K, L))) : whileM body gxFuel ((k : Int), 0, xs) = some (((gmk f xs k).1 : Int), (gmk f xs k).2) := by
  refine while_run (fun i => (((gmk f (xs.take i) k).1 : Int), (i : Int), (gmk f (xs.take i) k).2 ++ xs.drop i)) _ xs.length (by simp [gmk]) (by omega) (fun i hi => ?_) ?_
  · have hll : (gmk f (xs.take i) k).2.length = i := by rw [gmk_len]; simp; omega
    have hL : i < ((gmk f (xs.take i) k).2 ++ xs.drop i).length := by simp [hll]; omega
    have hs := gmk_succ (f := f) hi k
    have hle := gmk_take_le hf xs k (i + 1)
    rw [hs] at hle
    rw [h i hi _ _ hL (by simp only at hle; omega) (by rw [List.getElem_append_right (by omega)]; simp [hll]) (by simp [hll]; omega), hs, w64_succ (by omega)]
    congr 4
    rw [List.set_append_right _ _ (by omega), hll, Nat.sub_self, List.drop_eq_getElem_cons hi, List.set_cons_zero]
    simp
  · have := he ((gmk f (xs.take xs.length) k).1 : Int) ((gmk f (xs.take xs.length) k).2 ++ xs.drop xs.length) (by simp [gmk_len])
    rw [this]
    simp
theorem held_run {α : Type} (f : α → Nat → Nat × α) {xs : List α} {k : Nat} {body : Int × Int → Option ((Int × Int) ⊕ (Int ⊕ Int))} (hf : ∀ x k, k ≤ (f x k).1) (hb : (gmk f xs k).1 ≤ 1099511627776) (hl : xs.length ≤ 1099511627776)
    (h : ∀ (i : Nat) (hi : i < xs.length) (h2 : i < (gmk f xs k).2.length) (K : Nat), (f xs[i] K).1 ≤ 1099511627776 → (gmk f xs k).2[i] = (f xs[i] K).2 → body ((K : Int), (i : Int)) = some (.inl (((f xs[i] K).1 : Int), w64 ((i : Int) + 1))))
    (he : ∀ K : Int, body (K, (xs.length : Int)) = some (.inr (.inl K))) : whileM body gxFuel ((k : Int), 0) = some (.inl ((gmk f xs k).1 : Int)) := by
  refine while_run (fun i => (((gmk f (xs.take i) k).1 : Int), (i : Int))) _ xs.length (by simp [gmk]) (by omega) (fun i hi => ?_) ?_
  · have h2 : i < (gmk f xs k).2.length := by rw [gmk_len]; exact hi
    have hs := gmk_succ (f := f) hi k
    have hle := gmk_take_le hf xs k (i + 1)
    rw [hs] at hle
    rw [h i hi h2 _ (by simp only at hle; omega) (gmk_get hi k h2), hs, w64_succ (by omega)]
  · rw [he, List.take_length]
theorem gxIdx_same {α : Type} {xs : List α} {i : Nat} {a : α} (h : i < xs.length) : gxIdx (xs.set i a) (i : Int) = some a := by
  rw [gxIdx_nat (by simpa using h)]
  simp
theorem gmk_const {α : Type} {f : α → Nat → Nat × α} {W : Nat} (hf : ∀ x k, (f x k).1 = k + W) : ∀ (a : List α) (k : Nat), (gmk f a k).1 = k + W * a.length
  | [], k => by simp [gmk]
  | x :: r, k => by
    simp only [gmk, gmk_const hf r, hf, List.length_cons, Nat.mul_add, Nat.mul_one]
    omega
theorem nat_nlt (n : Nat) : decide ((n : Int) < 0) = false := by simp
def okRoute (x : Route) : Prop := okI x.Priority ∧ okI x.Target
theorem eqRoute_refl (x : Route) : M.l_eqRoute x x = some true := by unfold M.l_eqRoute; simp
theorem eqRouteS_refl (xs : List Route) (h : xs.length ≤ 4611686018427387904) : M.l_eqRouteS xs xs = some true := by
  unfold M.l_eqRouteS
  rw [while_run (fun i => (i : Int)) (Sum.inl ()) xs.length (by simp) h]
  · simp
  · intro i hi
    have h1 : ((i : Int) < (xs.length : Int)) := by omega
    simp [h1, gxIdx_nat hi, eqRoute_refl, w64_succ (show i ≤ 4611686018427387904 by omega)]
  · simp
theorem toRouteS_id (xs : List Route) (h : xs.length ≤ 1099511627776) : M.l_toRouteS xs = some xs := by
  unfold M.l_toRouteS
  rw [gxMake_nat (by omega), Option.bind_some, while_run (fun i => ((i : Int), taken xs (⟨0, 0⟩ : Route) i)) xs xs.length (by simp [taken_zero]) (by omega)]
  · rfl
  · intro i hi
    have h1 : ((i : Int) < (xs.length : Int)) := by omega
    have h2 : i < (taken xs (⟨0, 0⟩ : Route) i).length := by rw [taken_length (by omega)]; exact hi
    simp [h1, gxIdx_nat hi, gxIdx_nat h2, M.l_toRoute, w64_succ (show i ≤ 4611686018427387904 by omega), taken_set hi]
  · simp [taken_all]
def mkRoute (x : Route) (k : Nat) : Nat × Route := (k + 2, ⟨((k : Nat) : Int), (((k + 1) : Nat) : Int)⟩)
theorem markRouteS_ex (xs : List Route) (k : Nat) (h : k + 2 * xs.length ≤ 1099511627776) : M.l_markRouteS xs k = some (((gmk mkRoute xs k).1 : Int), (gmk mkRoute xs k).2) ∧ M.l_heldRouteS (gmk mkRoute xs k).2 k = some ((gmk mkRoute xs k).1 : Int) ∧ k ≤ (gmk mkRoute xs k).1 ∧ (gmk mkRoute xs k).1 = k + 2 * xs.length := by
  have hf : ∀ (x : Route) (k : Nat), k ≤ (mkRoute x k).1 := fun x k => by simp only [mkRoute]; omega
  have hc : (gmk mkRoute xs k).1 = k + 2 * xs.length := gmk_const (fun _ _ => rfl) xs k
  refine ⟨?_, ?_, gmk_mono hf _ _, hc⟩
  · unfold M.l_markRouteS
    rw [mark_run mkRoute hf (by omega) (by omega)]
    · rfl
    · intro i hi K L hL hK hLi hLl
      have h1 : ((i : Int) < (L.length : Int)) := by omega
      have hK : K + 2 ≤ 1099511627776 := hK
      simp only [h1, decide_true, cond_true, gxIdx_nat hL, gxIdx_same hL, List.set_set, Option.bind_some, Int.toNat_natCast, w64_succ (show K ≤ 4611686018427387904 by omega), w64_succ (show K + 1 ≤ 4611686018427387904 by omega), Nat.add_assoc, Nat.reduceAdd, mkRoute]
      all_goals rfl
    · intro K L hL
      simp only [hL, Int.lt_irrefl, decide_false, cond_false]
  · unfold M.l_heldRouteS
    rw [held_run mkRoute (xs := xs) hf (by omega) (by omega)]
    · rfl
    · intro i hi h2 K hK he
      have h1 : ((i : Int) < ((gmk mkRoute xs k).2.length : Int)) := by omega
      have hK : K + 2 ≤ 1099511627776 := hK
      simp only [h1, decide_true, cond_true, gxIdx_nat h2, he, mkRoute, Option.bind_some, bne_self_eq_false, beq_self_eq_true, Bool.not_true, cond_false, w64_succ (show K ≤ 4611686018427387904 by omega), w64_succ (show K + 1 ≤ 4611686018427387904 by omega), Nat.add_assoc, Nat.reduceAdd]
      all_goals rfl
    · intro K
      simp only [gmk_len, Int.lt_irrefl, decide_false, cond_false]
      all_goals rfl
def okSlot (x : Slot) : Prop := okI x.State ∧ okI x.Irq ∧ okI x.Priority
theorem eqSlot_refl (x : Slot) : M.l_eqSlot x x = some true := by unfold M.l_eqSlot; simp
theorem eqSlotS_refl (xs : List Slot) (h : xs.length ≤ 4611686018427387904) : M.l_eqSlotS xs xs = some true := by
  unfold M.l_eqSlotS
  rw [while_run (fun i => (i : Int)) (Sum.inl ()) xs.length (by simp) h]
  · simp
  · intro i hi
    have h1 : ((i : Int) < (xs.length : Int)) := by omega
    simp [h1, gxIdx_nat hi, eqSlot_refl, w64_succ (show i ≤ 4611686018427387904 by omega)]
  · simp
theorem toSlotS_id (xs : List Slot) (h : xs.length ≤ 1099511627776) : M.l_toSlotS xs = some xs := by
  unfold M.l_toSlotS
  rw [gxMake_nat (by omega), Option.bind_some, while_run (fun i => ((i : Int), taken xs (⟨0, 0, 0⟩ : Slot) i)) xs xs.length (by simp [taken_zero]) (by omega)]
  · rfl
  · intro i hi
    have h1 : ((i : Int) < (xs.length : Int)) := by omega
    have h2 : i < (taken xs (⟨0, 0, 0⟩ : Slot) i).length := by rw [taken_length (by omega)]; exact hi
    simp [h1, gxIdx_nat hi, gxIdx_nat h2, M.l_toSlot, w64_succ (show i ≤ 4611686018427387904 by omega), taken_set hi]
  · simp [taken_all]
def mkSlot (x : Slot) (k : Nat) : Nat × Slot := (k + 3, ⟨((k : Nat) : Int), (((k + 1) : Nat) : Int), (((k + 2) : Nat) : Int)⟩)
theorem markSlotS_ex (xs : List Slot) (k : Nat) (h : k + 3 * xs.length ≤ 1099511627776) : M.l_markSlotS xs k = some (((gmk mkSlot xs k).1 : Int), (gmk mkSlot xs k).2) ∧ M.l_heldSlotS (gmk mkSlot xs k).2 k = some ((gmk mkSlot xs k).1 : Int) ∧ k ≤ (gmk mkSlot xs k).1 ∧ (gmk mkSlot xs k).1 = k + 3 * xs.length := by
  have hf : ∀ (x : Slot) (k : Nat), k ≤ (mkSlot x k).1 := fun x k => by simp only [mkSlot]; omega
  have hc : (gmk mkSlot xs k).1 = k + 3 * xs.length := gmk_const (fun _ _ => rfl) xs k
  refine ⟨?_, ?_, gmk_mono hf _ _, hc⟩
  · unfold M.l_markSlotS
    rw [mark_run mkSlot hf (by omega) (by omega)]
    · rfl
    · intro i hi K L hL hK hLi hLl
      have h1 : ((i : Int) < (L.length : Int)) := by omega
      have hK : K + 3 ≤ 1099511627776 := hK
      simp only [h1, decide_true, cond_true, gxIdx_nat hL, gxIdx_same hL, List.set_set, Option.bind_some, Int.toNat_natCast, w64_succ (show K ≤ 4611686018427387904 by omega), w64_succ (show K + 1 ≤ 4611686018427387904 by omega), w64_succ (show K + 2 ≤ 4611686018427387904 by omega), Nat.add_assoc, Nat.reduceAdd, mkSlot]
      all_goals rfl
    · intro K L hL
      simp only [hL, Int.lt_irrefl, decide_false, cond_false]
  · unfold M.l_heldSlotS
    rw [held_run mkSlot (xs := xs) hf (by omega) (by omega)]
    · rfl
    · intro i hi h2 K hK he
      have h1 : ((i : Int) < ((gmk mkSlot xs k).2.length : Int)) := by omega
      have hK : K + 3 ≤ 1099511627776 := hK
      simp only [h1, decide_true, cond_true, gxIdx_nat h2, he, mkSlot, Option.bind_some, bne_self_eq_false, beq_self_eq_true, Bool.not_true, cond_false, w64_succ (show K ≤ 4611686018427387904 by omega), w64_succ (show K + 1 ≤ 4611686018427387904 by omega), w64_succ (show K + 2 ≤ 4611686018427387904 by omega), Nat.add_assoc, Nat.reduceAdd]
      all_goals rfl
    · intro K
      simp only [gmk_len, Int.lt_irrefl, decide_false, cond_false]
      all_goals rfl
def okWaiter (x : Waiter) : Prop := okI x.Irq ∧ okI x.Priority
theorem eqWaiter_refl (x : Waiter) : M.l_eqWaiter x x = some true := by unfold M.l_eqWaiter; simp
theorem eqWaiterS_refl (xs : List Waiter) (h : xs.length ≤ 4611686018427387904) : M.l_eqWaiterS xs xs = some true := by
  unfold M.l_eqWaiterS
  rw [while_run (fun i => (i : Int)) (Sum.inl ()) xs.length (by simp) h]
  · simp
  · intro i hi
    have h1 : ((i : Int) < (xs.length : Int)) := by omega
    simp [h1, gxIdx_nat hi, eqWaiter_refl, w64_succ (show i ≤ 4611686018427387904 by omega)]
  · simp
theorem toWaiterS_id (xs : List Waiter) (h : xs.length ≤ 1099511627776) : M.l_toWaiterS xs = some xs := by
  unfold M.l_toWaiterS
  rw [gxMake_nat (by omega), Option.bind_some, while_run (fun i => ((i : Int), taken xs (⟨0, 0⟩ : Waiter) i)) xs xs.length (by simp [taken_zero]) (by omega)]
  · rfl
  · intro i hi
    have h1 : ((i : Int) < (xs.length : Int)) := by omega
    have h2 : i < (taken xs (⟨0, 0⟩ : Waiter) i).length := by rw [taken_length (by omega)]; exact hi
    simp [h1, gxIdx_nat hi, gxIdx_nat h2, M.l_toWaiter, w64_succ (show i ≤ 4611686018427387904 by omega), taken_set hi]
  · simp [taken_all]
def mkWaiter (x : Waiter) (k : Nat) : Nat × Waiter := (k + 2, ⟨((k : Nat) : Int), (((k + 1) : Nat) : Int)⟩)
theorem markWaiterS_ex (xs : List Waiter) (k : Nat) (h : k + 2 * xs.length ≤ 1099511627776) : M.l_markWaiterS xs k = some (((gmk mkWaiter xs k).1 : Int), (gmk mkWaiter xs k).2) ∧ M.l_heldWaiterS (gmk mkWaiter xs k).2 k = some ((gmk mkWaiter xs k).1 : Int) ∧ k ≤ (gmk mkWaiter xs k).1 ∧ (gmk mkWaiter xs k).1 = k + 2 * xs.length := by
  have hf : ∀ (x : Waiter) (k : Nat), k ≤ (mkWaiter x k).1 := fun x k => by simp only [mkWaiter]; omega
  have hc : (gmk mkWaiter xs k).1 = k + 2 * xs.length := gmk_const (fun _ _ => rfl) xs k
  refine ⟨?_, ?_, gmk_mono hf _ _, hc⟩
  · unfold M.l_markWaiterS
    rw [mark_run mkWaiter hf (by omega) (by omega)]
    · rfl
    · intro i hi K L hL hK hLi hLl
      have h1 : ((i : Int) < (L.length : Int)) := by omega
      have hK : K + 2 ≤ 1099511627776 := hK
      simp only [h1, decide_true, cond_true, gxIdx_nat hL, gxIdx_same hL, List.set_set, Option.bind_some, Int.toNat_natCast, w64_succ (show K ≤ 4611686018427387904 by omega), w64_succ (show K + 1 ≤ 4611686018427387904 by omega), Nat.add_assoc, Nat.reduceAdd, mkWaiter]
      all_goals rfl
    · intro K L hL
      simp only [hL, Int.lt_irrefl, decide_false, cond_false]
  · unfold M.l_heldWaiterS
    rw [held_run mkWaiter (xs := xs) hf (by omega) (by omega)]
    · rfl
    · intro i hi h2 K hK he
      have h1 : ((i : Int) < ((gmk mkWaiter xs k).2.length : Int)) := by omega
      have hK : K + 2 ≤ 1099511627776 := hK
      simp only [h1, decide_true, cond_true, gxIdx_nat h2, he, mkWaiter, Option.bind_some, bne_self_eq_false, beq_self_eq_true, Bool.not_true, cond_false, w64_succ (show K ≤ 4611686018427387904 by omega), w64_succ (show K + 1 ≤ 4611686018427387904 by omega), Nat.add_assoc, Nat.reduceAdd]
      all_goals rfl
    · intro K
      simp only [gmk_len, Int.lt_irrefl, decide_false, cond_false]
      all_goals rfl
theorem eqQueue_refl (x : Queue) (h : x.Slots.length ≤ 1048576 ∧ x.Waiting.length ≤ 1048576) : M.l_eqQueue x x = some true := by
  unfold M.l_eqQueue
  simp only [eqSlotS_refl _ (show x.Slots.length ≤ 4611686018427387904 by omega), eqWaiterS_refl _ (show x.Waiting.length ≤ 4611686018427387904 by omega), Option.bind_some, Bool.not_true, cond_false]
def fitIf (x : Interface) : Prop := x.Stack.length ≤ 1048576 ∧ x.Queue.Slots.length ≤ 1048576 ∧ x.Queue.Waiting.length ≤ 1048576
theorem eqInterface_refl (x : Interface) (h : fitIf x) : M.l_eqInterface x x = some true := by
  unfold M.l_eqInterface
  have h1 := eqQueue_refl x.Queue h.2
  simp only [eqIntS_refl _ (show x.Stack.length ≤ 4611686018427387904 by have := h.1; omega), h1, Option.bind_some, Bool.not_true, cond_false, bne_self_eq_false]
theorem eqInterfaceS_refl (xs : List Interface) (hl : xs.length ≤ 1048576) (h : ∀ x ∈ xs, fitIf x) : M.l_eqInterfaceS xs xs = some true := by
  unfold M.l_eqInterfaceS
  rw [while_run (fun i => (i : Int)) (Sum.inl ()) xs.length (by simp) (by omega)]
  · simp
  · intro i hi
    have h1 : ((i : Int) < (xs.length : Int)) := by omega
    have h2 := eqInterface_refl xs[i] (h _ (List.getElem_mem hi))
    simp only [h1, decide_true, cond_true, gxIdx_nat hi, Option.bind_some]
    rw [h2]
    simp only [Option.bind_some, Bool.not_true, cond_false, w64_succ (show i ≤ 4611686018427387904 by omega)]
  · simp
def wIf (x : Interface) : Nat := 1 + x.Stack.length + 3 * x.Queue.Slots.length + 2 * x.Queue.Waiting.length
def mkIf (x : Interface) (k : Nat) : Nat × Interface := (k + wIf x, ⟨(k : Int), marks (k + 1) x.Stack.length, ⟨(gmk mkSlot x.Queue.Slots (k + 1 + x.Stack.length)).2, (gmk mkWaiter x.Queue.Waiting (k + 1 + x.Stack.length + 3 * x.Queue.Slots.length)).2⟩⟩)
def wIfs (xs : List Interface) : Nat := (xs.map wIf).sum
theorem mkIf_sum : ∀ (xs : List Interface) (k : Nat), (gmk mkIf xs k).1 = k + wIfs xs
  | [], k => by simp [gmk, wIfs]
  | x :: r, k => by
    simp only [gmk, mkIf_sum r, mkIf, wIfs, List.map_cons, List.sum_cons]
    omega
theorem markIfS_ex (xs : List Interface) (k : Nat) (hl : xs.length ≤ 1048576) (h : k + wIfs xs ≤ 1099511627776) : M.l_markInterfaceS xs k = some (((gmk mkIf xs k).1 : Int), (gmk mkIf xs k).2) ∧ M.l_heldInterfaceS (gmk mkIf xs k).2 k = some ((gmk mkIf xs k).1 : Int) := by
  have hf : ∀ (x : Interface) (k : Nat), k ≤ (mkIf x k).1 := fun x k => by simp only [mkIf]; omega
  have hc := mkIf_sum xs k
  refine ⟨?_, ?_⟩
  · unfold M.l_markInterfaceS
    rw [mark_run mkIf hf (by omega) (by omega)]
    · rfl
    · intro i hi K L hL hK hLi hLl
      have h1 : ((i : Int) < (L.length : Int)) := by omega
      have hK : K + wIf xs[i] ≤ 1099511627776 := hK
      have hw : wIf xs[i] = 1 + xs[i].Stack.length + 3 * xs[i].Queue.Slots.length + 2 * xs[i].Queue.Waiting.length := rfl
      have m1 := markIntS_ok xs[i].Stack (K + 1) (by omega)
      have m2 := markSlotS_ex xs[i].Queue.Slots (K + 1 + xs[i].Stack.length) (by omega)
      have m3 := markWaiterS_ex xs[i].Queue.Waiting (K + 1 + xs[i].Stack.length + 3 * xs[i].Queue.Slots.length) (by omega)
      rw [m2.2.2.2] at m2
      simp only [h1, decide_true, cond_true, gxIdx_nat hL, gxIdx_same hL, List.set_set, Option.bind_some, Int.toNat_natCast, hLi, w64_succ (show K ≤ 4611686018427387904 by omega), m1, m2.1, m3.1]
      rw [m3.2.2.2]
      have e : K + 1 + xs[i].Stack.length + 3 * xs[i].Queue.Slots.length + 2 * xs[i].Queue.Waiting.length = K + wIf xs[i] := by omega
      rw [e]
      rfl
    · intro K L hL
      simp only [hL, Int.lt_irrefl, decide_false, cond_false]
  · unfold M.l_heldInterfaceS
    rw [held_run mkIf (xs := xs) hf (by omega) (by omega)]
    · rfl
    · intro i hi h2 K hK he
      have h1 : ((i : Int) < ((gmk mkIf xs k).2.length : Int)) := by omega
      have hK : K + wIf xs[i] ≤ 1099511627776 := hK
      have hw : wIf xs[i] = 1 + xs[i].Stack.length + 3 * xs[i].Queue.Slots.length + 2 * xs[i].Queue.Waiting.length := rfl
      have m1 := heldIntS_ok (K + 1) xs[i].Stack.length (by omega)
      have m2 := markSlotS_ex xs[i].Queue.Slots (K + 1 + xs[i].Stack.length) (by omega)
      have m3 := markWaiterS_ex xs[i].Queue.Waiting (K + 1 + xs[i].Stack.length + 3 * xs[i].Queue.Slots.length) (by omega)
      rw [m2.2.2.2] at m2
      simp only [h1, decide_true, cond_true, gxIdx_nat h2, he, mkIf, Option.bind_some, bne_self_eq_false, cond_false, w64_succ (show K ≤ 4611686018427387904 by omega), m1, m2.2.1, m3.2.1, nat_nlt]
      rw [m3.2.2.2]
      have e : K + 1 + xs[i].Stack.length + 3 * xs[i].Queue.Slots.length + 2 * xs[i].Queue.Waiting.length = K + wIf xs[i] := by omega
      rw [e]
    · intro K
      simp only [gmk_len, Int.lt_irrefl, decide_false, cond_false]
def fitM (m : Machine) : Prop := m.Routes.length ≤ 1048576 ∧ m.Enabled.length ≤ 1048576 ∧ m.Raised.length ≤ 1048576 ∧ m.Cpus.length ≤ 1048576 ∧ (∀ x ∈ m.Cpus, fitIf x) ∧ wIfs m.Cpus ≤ 1099500000000
theorem eqMachine_refl (m : Machine) (h : fitM m) : M.l_eqMachine m m = some true := by
  obtain ⟨h1, h2, h3, h4, h5, _⟩ := h
  unfold M.l_eqMachine
  simp only [eqRouteS_refl _ (show m.Routes.length ≤ 4611686018427387904 by omega), eqBoolS_refl _ (show m.Enabled.length ≤ 4611686018427387904 by omega), eqBoolS_refl _ (show m.Raised.length ≤ 4611686018427387904 by omega), eqInterfaceS_refl _ h4 h5, Option.bind_some, Bool.not_true, cond_false]
theorem markMachine_held (m : Machine) (k : Nat) (hf : fitM m) (h : k ≤ 1048576) : ∃ (n : Nat) (q : List Route × List Bool × List Bool × List Interface), M.l_markMachine m k = some ((n : Int), q) ∧ M.l_heldMachine ⟨q.1, q.2.1, q.2.2.1, q.2.2.2⟩ k = some (n : Int) ∧ k ≤ n ∧ n = k + 2 * m.Routes.length + m.Enabled.length + m.Raised.length + wIfs m.Cpus := by
  obtain ⟨h1, h2, h3, h4, h5, h6⟩ := hf
  have m1 := markRouteS_ex m.Routes k (by omega)
  rw [m1.2.2.2] at m1
  have m2 := markBoolS_ok m.Enabled (k + 2 * m.Routes.length) (by omega)
  have g2 := heldBoolS_ok (k + 2 * m.Routes.length) m.Enabled.length (by omega)
  have m3 := markBoolS_ok m.Raised (k + 2 * m.Routes.length + m.Enabled.length) (by omega)
  have g3 := heldBoolS_ok (k + 2 * m.Routes.length + m.Enabled.length) m.Raised.length (by omega)
  have m4 := markIfS_ex m.Cpus (k + 2 * m.Routes.length + m.Enabled.length + m.Raised.length) h4 (by omega)
  rw [mkIf_sum] at m4
  refine ⟨k + 2 * m.Routes.length + m.Enabled.length + m.Raised.length + wIfs m.Cpus, ⟨(gmk mkRoute m.Routes k).2, bmarks (k + 2 * m.Routes.length) m.Enabled.length, bmarks (k + 2 * m.Routes.length + m.Enabled.length) m.Raised.length, (gmk mkIf m.Cpus (k + 2 * m.Routes.length + m.Enabled.length + m.Raised.length)).2⟩, ?_, ?_, by omega, rfl⟩
  · unfold M.l_markMachine
    simp only [m1.1, m2, m3, m4.1, Option.bind_some]
  · unfold M.l_heldMachine
    simp only [m1.2.1, g2, g3, m4.2, nat_nlt, Option.bind_some, cond_false]
def okRt (c : Int) (r : Route) : Bool := (decide (0 ≤ r.Priority) && decide (r.Priority ≤ 15)) && (decide (0 ≤ r.Target) && decide (r.Target ≤ w64 (c - 1)))
def okRts (xs : List Route) (c : Int) : Bool := (decide (1 ≤ c) && decide (c ≤ 2)) && (((xs.length : Int) == 8) && (List.range xs.length).all (fun i => okRt c (xs.getD i ⟨0, 0⟩)))
theorem s_routes (xs : List Route) (c : Int) (h : xs.length ≤ 1048576) : M.s_l21Routes xs c = some (okRts xs c) := by
  unfold M.s_l21Routes okRts
  rw [while_all (fun i => (i : Int)) (fun i => okRt c (xs.getD i ⟨0, 0⟩)) (.inr false) (.inl ()) xs.length (by simp) (by omega)]
  · cases (List.range xs.length).all (fun i => okRt c (xs.getD i ⟨0, 0⟩)) with
    | false => simp
    | true =>
      simp only [cond_true, Option.bind_some, Sum.elim_inl, s_in, Bool.and_true]
      cases (decide (1 ≤ c) && decide (c ≤ 2)) <;> rfl
  · intro i hi
    have e0 : ((i : Int) < (xs.length : Int)) := by omega
    simp only [e0, decide_true, cond_true, gxIdx_nat hi, Option.bind_some, M.s_l6Prio, s_in, getD_at hi, w64_succ (show i ≤ 4611686018427387904 by omega)]
    unfold okRt
    cases (decide (0 ≤ xs[i].Priority) && decide (xs[i].Priority ≤ 15)) with
    | false => rfl
    | true =>
      simp only [Bool.not_true, cond_false, Option.bind_some, Bool.true_and]
      cases (decide (0 ≤ xs[i].Target) && decide (xs[i].Target ≤ w64 (c - 1))) <;> rfl
  · simp
end Go.Proofs.YtllhajkgkghhdaaGreat
set_option linter.unusedVariables false
set_option linter.unusedSimpArgs false
set_option maxHeartbeats 4000000
namespace Go.Proofs.YtllhajkgkghhdaaGreat
open Go.Gx
theorem while_upto {σ ρ : Type} {body : σ → Option (σ ⊕ ρ)} {s0 : σ} (st : Nat → σ) (ok : Nat → Bool) (bad r : ρ) (n : Nat) (h0 : s0 = st 0) (hn : n ≤ 4611686018427387904) (h : ∀ i, i < n → (∀ j, j < i → ok j = true) → body (st i) = some (bif ok i then .inl (st (i + 1)) else .inr bad)) (he : (∀ j, j < n → ok j = true) → body (st n) = some (.inr r)) :
    whileM body gxFuel s0 = some (bif (List.range n).all ok then r else bad) := by
  cases hf : (List.range n).find? (fun i => !(ok i)) with
  | none =>
    have hall : ∀ j, j < n → ok j = true := fun j hj => by
      have := List.find?_eq_none.1 hf j (List.mem_range.2 hj)
      simpa using this
    have : (List.range n).all ok = true := List.all_eq_true.2 fun j hj => hall j (List.mem_range.1 hj)
    rw [this]
    refine while_run st _ n h0 hn (fun i hi => ?_) (he hall)
    rw [h i hi (fun j hj => hall j (by omega)), hall i hi]
    rfl
  | some i =>
    obtain ⟨h1, h2, h3⟩ := List.find?_range_eq_some.1 hf
    have h2 := List.mem_range.1 h2
    have hb : ∀ j, j < i → ok j = true := fun j hj => by simpa using h3 j hj
    have hi : ok i = false := by simpa using h1
    have : (List.range n).all ok = false := List.all_eq_false.2 ⟨i, List.mem_range.2 h2, by simp [hi]⟩
    rw [this]
    refine while_run st _ i h0 (by omega) (fun j hj => ?_) ?_
    · rw [h j (by omega) (fun k hk => hb k (by omega)), hb j hj]
      rfl
    · rw [h i h2 hb, hi]
      rfl
theorem nodup_bound : ∀ (n : Nat) (l : List Nat), l.Nodup → (∀ x ∈ l, x < n) → l.length ≤ n
  | 0, [], _, _ => Nat.le_refl _
  | 0, x :: r, _, h => absurd (h x List.mem_cons_self) (Nat.not_lt_zero _)
  | n + 1, l, hd, h => by
    by_cases hn : n ∈ l
    · have hp := List.perm_cons_erase hn
      have hd2 := hp.nodup_iff.1 hd
      rw [List.nodup_cons] at hd2
      have hl := hp.length_eq
      have := nodup_bound n (l.erase n) hd2.2 fun x hx => by
        have h1 := h x (List.mem_of_mem_erase hx)
        have h2 : x ≠ n := fun e => hd2.1 (e ▸ hx)
        omega
      rw [List.length_cons] at hl
      omega
    · have := nodup_bound n l hd fun x hx => by
        have h1 := h x hx
        have h2 : x ≠ n := fun e => hn (e ▸ hx)
        omega
      omega
theorem nodup_perm {α : Type} [BEq α] [LawfulBEq α] : ∀ {a b : List α}, a.Nodup → (∀ x ∈ a, x ∈ b) → b.length ≤ a.length → a.Perm b
  | [], b, _, _, hl => by
    have : b = [] := List.length_eq_zero_iff.1 (by simpa using hl)
    rw [this]
  | x :: t, b, hd, h, hl => by
    rw [List.nodup_cons] at hd
    have hp := List.perm_cons_erase (h x List.mem_cons_self)
    have hlen := hp.length_eq
    have := nodup_perm (a := t) (b := b.erase x) hd.2 (fun y hy => by
      have h1 := hp.mem_iff.1 (h y (List.mem_cons_of_mem _ hy))
      rcases List.mem_cons.1 h1 with e | e
      · exact absurd (e ▸ hy) hd.1
      · exact e) (by simp at hl hlen; omega)
    exact (this.cons x).trans hp.symm
theorem first_lt {n : Nat} {p : Nat → Bool} : (match (List.range n).find? p with | some i => (i : Int) | none => -1) < 0 ↔ ∀ i, i < n → p i = false := by
  cases hf : (List.range n).find? p with
  | none =>
    simp only
    refine ⟨fun _ i hi => ?_, fun _ => by omega⟩
    have := List.find?_eq_none.1 hf i (List.mem_range.2 hi)
    simpa using this
  | some i =>
    obtain ⟨h1, h2, _⟩ := List.find?_range_eq_some.1 hf
    simp only
    refine ⟨fun h => by omega, fun h => ?_⟩
    rw [h i (List.mem_range.1 h2)] at h1
    cases h1
def gS : Slot := ⟨0, 0, 0⟩
def mtS (q : Int) (s : Slot) : Bool := s.State != 0 && s.Irq == q
def fndS (xs : List Slot) (q : Int) : Int := match (List.range xs.length).find? (fun i => mtS q (xs.getD i gS)) with
  | some i => (i : Int)
  | none => -1
theorem s_find (xs : List Slot) (q : Int) (h : xs.length ≤ 1048576) : M.s_l8Find xs q = some (fndS xs q) := by
  unfold M.s_l8Find fndS
  rw [while_first (fun i => (i : Int)) (fun i => mtS q (xs.getD i gS)) (fun i => (Sum.inr (i : Int) : Unit ⊕ Int)) (Sum.inl ()) xs.length (by simp) (by omega)]
  · cases (List.range xs.length).find? (fun i => mtS q (xs.getD i gS)) <;> rfl
  · intro i hi
    have e0 : ((i : Int) < (xs.length : Int)) := by omega
    simp only [e0, decide_true, cond_true, gxIdx_nat hi, Option.bind_some, getD_at hi, w64_succ (show i ≤ 4611686018427387904 by omega), mtS]
    cases (xs[i].State != 0) with
    | false => rfl
    | true => cases (xs[i].Irq == q) <;> rfl
  · simp
theorem i_find (xs : List Slot) (q : Int) (h : xs.length ≤ 1048576) : M.i_findSlot xs q = some (fndS xs q) := by
  unfold M.i_findSlot M.slices_IndexFunc_210__i_findSlot_1 fndS
  rw [while_first (fun i => (i : Int)) (fun i => mtS q (xs.getD i gS)) (fun i => (Sum.inr (i : Int) : Unit ⊕ Int)) (Sum.inl ()) xs.length (by simp) (by omega)]
  · cases (List.range xs.length).find? (fun i => mtS q (xs.getD i gS)) <;> rfl
  · intro i hi
    have e0 : ((i : Int) < (xs.length : Int)) := by omega
    simp only [e0, decide_true, cond_true, gxIdx_nat hi, Option.bind_some, getD_at hi, w64_succ (show i ≤ 4611686018427387904 by omega), mtS, M.i_findSlot_1]
    cases (xs[i].State != 0) with
    | false => rfl
    | true => cases (xs[i].Irq == q) <;> rfl
  · simp
theorem fndS_neg {xs : List Slot} {q : Int} : fndS xs q < 0 ↔ ∀ i, (hi : i < xs.length) → mtS q xs[i] = false := by
  unfold fndS
  rw [first_lt]
  exact ⟨fun h i hi => by have := h i hi; rwa [getD_at hi] at this, fun h i hi => by rw [getD_at hi]; exact h i hi⟩
theorem fndS_at {xs : List Slot} {q : Int} (h : ¬ fndS xs q < 0) : ∃ i, ∃ hi : i < xs.length, fndS xs q = (i : Int) ∧ mtS q xs[i] = true ∧ ∀ j, (hj : j < i) → mtS q (xs[j]'(by omega)) = false := by
  unfold fndS at h ⊢
  cases hf : (List.range xs.length).find? (fun i => mtS q (xs.getD i gS)) with
  | none => rw [hf] at h; simp at h
  | some i =>
    obtain ⟨h1, h2, h3⟩ := List.find?_range_eq_some.1 hf
    have h2 := List.mem_range.1 h2
    rw [getD_at h2] at h1
    refine ⟨i, h2, rfl, h1, fun j hj => ?_⟩
    have := h3 j hj
    rw [getD_at (show j < xs.length by omega)] at this
    simpa using this
def inR (x a b : Int) : Bool := decide (a ≤ x) && decide (x ≤ b)
def freshS (xs : List Slot) (i : Nat) : Bool := (List.range i).all fun j => !(mtS (xs.getD i gS).Irq (xs.getD j gS))
def okSl (xs : List Slot) (i : Nat) : Bool := inR (xs.getD i gS).State 0 3 && (inR (xs.getD i gS).Irq 0 7 && (inR (xs.getD i gS).Priority 0 15 && (bif (xs.getD i gS).State == 0 then (xs.getD i gS).Irq == 0 && (xs.getD i gS).Priority == 0 else freshS xs i)))
def goodS (xs : List Slot) : Bool := (xs.length : Int) == 4 && (List.range xs.length).all (okSl xs)
theorem fresh_find {xs : List Slot} {i : Nat} (hi : i < xs.length) (hs : (xs[i].State == 0) = false) : (fndS xs xs[i].Irq != (i : Int)) = !(freshS xs i) := by
  have hm : mtS xs[i].Irq xs[i] = true := by unfold mtS; simp [bne, hs]
  have hnn : ¬ fndS xs xs[i].Irq < 0 := fun h => by rw [fndS_neg.1 h i hi] at hm; cases hm
  obtain ⟨k, hk, he, h1, h2⟩ := fndS_at hnn
  cases hf : freshS xs i with
  | true =>
    unfold freshS at hf
    rw [List.all_eq_true] at hf
    have hki : k = i := by
      rcases Nat.lt_trichotomy k i with h | h | h
      · have := hf k (List.mem_range.2 h)
        rw [getD_at hi, getD_at hk, h1] at this
        cases this
      · exact h
      · have := h2 i h
        rw [hm] at this
        cases this
    rw [he, hki]
    simp
  | false =>
    unfold freshS at hf
    rw [List.all_eq_false] at hf
    obtain ⟨j, hj, hjf⟩ := hf
    have hj := List.mem_range.1 hj
    rw [getD_at hi, getD_at (show j < xs.length by omega)] at hjf
    have hkj : k ≠ i := fun e => by
      have := h2 j (by omega)
      rw [this] at hjf
      simp at hjf
    rw [he]
    simp
    omega
theorem fresh_take {xs : List Slot} {i : Nat} (hi : i < xs.length) : decide (fndS (xs.take i) xs[i].Irq ≥ 0) = !(freshS xs i) := by
  have hl : (xs.take i).length = i := by simp; omega
  cases hf : freshS xs i with
  | true =>
    unfold freshS at hf
    rw [List.all_eq_true] at hf
    have : fndS (xs.take i) xs[i].Irq < 0 := fndS_neg.2 fun j hj => by
      have hji : j < i := by omega
      have := hf j (List.mem_range.2 hji)
      rw [getD_at hi, getD_at (show j < xs.length by omega)] at this
      rw [List.getElem_take]
      simpa using this
    have : ¬ (fndS (xs.take i) xs[i].Irq ≥ 0) := by omega
    simp [this]
  | false =>
    unfold freshS at hf
    rw [List.all_eq_false] at hf
    obtain ⟨j, hj, hjf⟩ := hf
    have hj := List.mem_range.1 hj
    rw [getD_at hi, getD_at (show j < xs.length by omega)] at hjf
    have : ¬ fndS (xs.take i) xs[i].Irq < 0 := fun h => by
      have := fndS_neg.1 h j (by omega)
      rw [List.getElem_take] at this
      rw [this] at hjf
      simp at hjf
    have : fndS (xs.take i) xs[i].Irq ≥ 0 := by omega
    simp [this]
theorem s_goodS (xs : List Slot) (h : xs.length ≤ 1048576) : M.s_l8Good xs = some (goodS xs) := by
  unfold M.s_l8Good goodS
  rw [while_all (fun i => (i : Int)) (okSl xs) (Sum.inr false : Unit ⊕ Bool) (Sum.inl ()) xs.length (by simp) (by omega)]
  · cases (List.range xs.length).all (okSl xs) <;> simp
  · intro i hi
    have e0 : ((i : Int) < (xs.length : Int)) := by omega
    simp only [e0, decide_true, cond_true, gxIdx_nat hi, Option.bind_some, M.s_l6Irq, M.s_l6Prio, s_in, w64_succ (show i ≤ 4611686018427387904 by omega)]
    unfold okSl inR
    rw [getD_at hi]
    cases (decide (0 ≤ xs[i].State) && decide (xs[i].State ≤ 3)) with
    | false => rfl
    | true => cases (decide (0 ≤ xs[i].Irq) && decide (xs[i].Irq ≤ 7)) with
      | false => rfl
      | true => cases (decide (0 ≤ xs[i].Priority) && decide (xs[i].Priority ≤ 15)) with
        | false => rfl
        | true =>
          cases hs : (xs[i].State == 0) with
          | true =>
            simp only [Bool.not_true, cond_false, cond_true, Option.bind_some, Bool.true_and, bne, hs]
            cases (xs[i].Irq == 0) with
            | false => rfl
            | true => cases (xs[i].Priority == 0) <;> rfl
          | false =>
            have := fresh_find hi hs
            simp only [Bool.not_true, Bool.not_false, cond_false, cond_true, Option.bind_some, Bool.true_and, bne, hs, s_find xs _ h] at this ⊢
            rw [this]
            cases freshS xs i <;> rfl
  · simp
theorem i_goodS (xs : List Slot) (h : xs.length ≤ 1048576) : M.i_AreSlots xs = some (goodS xs) := by
  unfold M.i_AreSlots goodS
  cases h4 : ((xs.length : Int) == 4) with
  | false => simp only [bne, h4, Bool.not_false, cond_true, Bool.false_and]
  | true =>
    simp only [bne, h4, Bool.not_true, cond_false, Bool.true_and]
    rw [while_all (fun i => (i : Int)) (okSl xs) (Sum.inr false : Unit ⊕ Bool) (Sum.inl ()) xs.length (by simp) (by omega)]
    · cases (List.range xs.length).all (okSl xs) <;> simp
    · intro i hi
      have e0 : ((i : Int) < (xs.length : Int)) := by omega
      have hsl : gxSlice xs 0 (i : Int) = some (xs.take i) := by
        unfold gxSlice
        rw [if_pos ⟨by omega, by omega, by omega⟩]
        simp
      have hfd := i_find (xs.take i) xs[i].Irq (by simp; omega)
      simp only [e0, decide_true, cond_true, gxIdx_nat hi, Option.bind_some, M.i_isIrq, M.i_isPriority, i_in, w64_succ (show i ≤ 4611686018427387904 by omega), hsl, hfd, fresh_take hi]
      unfold okSl inR
      rw [getD_at hi]
      cases hs : (xs[i].State == 0) with
      | true =>
        have hs0 : xs[i].State = 0 := by simpa using hs
        simp only [cond_true, hs, Bool.true_and, Bool.and_true, hs0]
        cases h1 : (xs[i].Irq == 0) with
        | false => simp
        | true => cases h2 : (xs[i].Priority == 0) with
          | false => simp
          | true =>
            have h1 : xs[i].Irq = 0 := by simpa using h1
            have h2 : xs[i].Priority = 0 := by simpa using h2
            simp [h1, h2]
      | false =>
        have hs0 : xs[i].State ≠ 0 := by simpa using hs
        have e1 : (decide (1 ≤ xs[i].State) && decide (xs[i].State ≤ 3)) = (decide (0 ≤ xs[i].State) && decide (xs[i].State ≤ 3)) := by
          rw [Bool.eq_iff_iff]
          simp only [Bool.and_eq_true, decide_eq_true_eq]
          omega
        simp only [cond_false, e1]
        cases (decide (0 ≤ xs[i].State) && decide (xs[i].State ≤ 3)) with
        | false => rfl
        | true => cases (decide (0 ≤ xs[i].Irq) && decide (xs[i].Irq ≤ 7)) with
          | false => rfl
          | true => cases (decide (0 ≤ xs[i].Priority) && decide (xs[i].Priority ≤ 15)) with
            | false => rfl
            | true =>
              simp only [Bool.not_true, cond_false, Option.bind_some, Bool.true_and]
              cases freshS xs i <;> rfl
    · simp
def lessU (p q r s : Int) : Bool := decide (p < r) || (p == r && decide (q < s))
theorem s_less (p q r s : Int) : M.s_l8Less p q r s = some (lessU p q r s) := by
  unfold M.s_l8Less lessU
  by_cases h : p < r
  · simp [h]
  · simp only [h, decide_false, cond_false, Bool.false_or]
    cases (p == r) <;> rfl
def cmpI (a b : Int) : Int := if a < b then -1 else if a > b then 1 else 0
theorem i_cmp (a b : Int) : M.cmp_Compare_170 a b = some (cmpI a b) := by
  unfold M.cmp_Compare_170 M.cmp_isNaN_222 cmpI
  simp only [bne_self_eq_false, Option.bind_some, cond_false]
  by_cases h : a < b
  · simp [h]
  · by_cases h2 : a > b
    · simp [h, h2]
    · simp [h, h2]
def cmpU (a b : Waiter) : Int := if cmpI a.Priority b.Priority ≠ 0 then cmpI a.Priority b.Priority else cmpI a.Irq b.Irq
theorem i_cmpU (a b : Waiter) : M.i_compareUrgency a b = some (cmpU a b) := by
  unfold M.i_compareUrgency M.cmp_Or_169 cmpU
  simp only [i_cmp, Option.bind_some]
  by_cases h1 : cmpI a.Priority b.Priority = 0
  · by_cases h2 : cmpI a.Irq b.Irq = 0
    · rw [while_run (fun i => (i : Int)) (Sum.inl ()) 2 (by simp) (by omega)]
      · simp [h1, h2]
      · intro i hi
        have hi' : i = 0 ∨ i = 1 := by omega
        rcases hi' with rfl | rfl <;> simp [gxIdx, h1, h2] <;> rfl
      · rfl
    · rw [while_run (fun i => (i : Int)) (Sum.inr (cmpI a.Irq b.Irq)) 1 (by simp) (by omega)]
      · simp [h1]
      · intro i hi
        have hi' : i = 0 := by omega
        subst hi'
        simp [gxIdx, h1]
        rfl
      · simp [gxIdx, bne_iff_ne.2 h2]
  · rw [while_run (fun i => (i : Int)) (Sum.inr (cmpI a.Priority b.Priority)) 0 (by simp) (by omega)]
    · simp [h1]
    · intro i hi; omega
    · simp [gxIdx, bne_iff_ne.2 h1]
theorem cmpU_lt (a b : Waiter) : decide (cmpU a b < 0) = lessU a.Priority a.Irq b.Priority b.Irq := by
  unfold cmpU cmpI lessU
  rw [Bool.eq_iff_iff]
  simp only [decide_eq_true_eq, Bool.or_eq_true, Bool.and_eq_true, beq_iff_eq]
  by_cases h1 : a.Priority < b.Priority <;> by_cases h2 : a.Priority > b.Priority <;> by_cases h3 : a.Irq < b.Irq <;> by_cases h4 : a.Irq > b.Irq <;> simp [h1, h2, h3, h4] <;> omega
theorem cmpU_gt (a b : Waiter) : decide (cmpU a b > 0) = lessU b.Priority b.Irq a.Priority a.Irq := by
  unfold cmpU cmpI lessU
  rw [Bool.eq_iff_iff]
  simp only [decide_eq_true_eq, Bool.or_eq_true, Bool.and_eq_true, beq_iff_eq]
  by_cases h1 : a.Priority < b.Priority <;> by_cases h2 : a.Priority > b.Priority <;> by_cases h3 : a.Irq < b.Irq <;> by_cases h4 : a.Irq > b.Irq <;> simp [h1, h2, h3, h4] <;> omega
theorem cmpU_ge (a b : Waiter) : decide (cmpU a b ≥ 0) = !(lessU a.Priority a.Irq b.Priority b.Irq) := by
  rw [← cmpU_lt, ← decide_not]
  congr 1
  rw [eq_iff_iff]
  omega
end Go.Proofs.YtllhajkgkghhdaaGreat
set_option linter.unusedVariables false
set_option linter.unusedSimpArgs false
set_option maxHeartbeats 4000000
namespace Go.Proofs.YtllhajkgkghhdaaGreat
open Go.Gx
def gW : Waiter := ⟨0, 0⟩
def freshW (ws : List Waiter) (i : Nat) : Bool := (List.range i).all fun j => !((ws.getD j gW).Irq == (ws.getD i gW).Irq)
def okW (xs : List Slot) (ws : List Waiter) (i : Nat) : Bool := inR (ws.getD i gW).Irq 0 7 && (inR (ws.getD i gW).Priority 0 15 && (decide (fndS xs (ws.getD i gW).Irq < 0) && (freshW ws i && (decide (i = 0) || lessU (ws.getD (i - 1) gW).Priority (ws.getD (i - 1) gW).Irq (ws.getD i gW).Priority (ws.getD i gW).Irq))))
def goodP (xs : List Slot) (ws : List Waiter) : Bool := goodS xs && (List.range ws.length).all (okW xs ws)
theorem okW_irq {xs : List Slot} {ws : List Waiter} {i : Nat} (h : okW xs ws i = true) : (0 ≤ (ws.getD i gW).Irq ∧ (ws.getD i gW).Irq ≤ 7) ∧ ∀ j, j < i → (ws.getD j gW).Irq ≠ (ws.getD i gW).Irq := by
  unfold okW inR freshW at h
  simp only [Bool.and_eq_true, decide_eq_true_eq, List.all_eq_true] at h
  refine ⟨h.1, fun j hj => ?_⟩
  have := h.2.2.2.1 j (List.mem_range.2 hj)
  simpa using this
theorem w_len {xs : List Slot} {ws : List Waiter} (h : ∀ i, i < 9 → i < ws.length → okW xs ws i = true) : ws.length ≤ 8 := by
  by_cases hl : ws.length ≤ 8
  · exact hl
  · exfalso
    have h9 : ∀ i, i < 9 → okW xs ws i = true := fun i hi => h i hi (by omega)
    have := nodup_bound 8 ((List.range 9).map fun i => (ws.getD i gW).Irq.toNat) (by
      rw [List.Nodup, List.pairwise_map]
      refine List.Pairwise.imp_of_mem (fun {a b} ha hb hab => ?_) List.pairwise_lt_range
      have h1 := okW_irq (h9 a (List.mem_range.1 ha))
      have h2 := okW_irq (h9 b (List.mem_range.1 hb))
      have h3 := h2.2 a hab
      omega) (fun x hx => by
      obtain ⟨i, hi, rfl⟩ := List.mem_map.1 hx
      have h1 := okW_irq (h9 i (List.mem_range.1 hi))
      omega)
    simp at this
theorem gxIdx_prevZ {α : Type} {xs : List α} {i : Nat} {z : α} (h : i < xs.length) (h0 : 0 < i) (hl : i ≤ 4611686018427387904) : gxIdx xs (w64 ((i : Int) - 1)) = some (xs.getD (i - 1) z) := by
  rw [w64_id (by omega) (by omega)]
  obtain ⟨k, rfl⟩ : ∃ k, i = k + 1 := ⟨i - 1, by omega⟩
  have e : ((k + 1 : Nat) : Int) - 1 = (k : Int) := by omega
  rw [e, gxIdx_nat (by omega), Nat.add_sub_cancel, getD_at (by omega)]
theorem s_waiting (xs : List Slot) (ws : List Waiter) (hx : xs.length ≤ 1048576) (hw : ws.length ≤ 1048576) : M.s_l9Waiting xs ws = some (goodP xs ws) := by
  unfold M.s_l9Waiting
  rw [while_all (fun i => (i : Int)) (okW xs ws) (Sum.inr false : Unit ⊕ Bool) (Sum.inl ()) (min ws.length 9) (by simp) (by omega)]
  · have hval : (bif (List.range (min ws.length 9)).all (okW xs ws) then (goodS xs && decide ((ws.length : Int) ≤ 8)) else false) = goodP xs ws := by
      unfold goodP
      cases ha : (List.range (min ws.length 9)).all (okW xs ws) with
      | true =>
        rw [List.all_eq_true] at ha
        have h8 := w_len (xs := xs) (ws := ws) fun i h9 hi => ha i (List.mem_range.2 (by omega))
        have hall : (List.range ws.length).all (okW xs ws) = true := List.all_eq_true.2 fun i hi => ha i (List.mem_range.2 (by have := List.mem_range.1 hi; omega))
        have h8' : ((ws.length : Int) ≤ 8) := by omega
        simp [hall, h8']
      | false =>
        rw [List.all_eq_false] at ha
        obtain ⟨i, hi, hf⟩ := ha
        have hall : (List.range ws.length).all (okW xs ws) = false := List.all_eq_false.2 ⟨i, List.mem_range.2 (by have := List.mem_range.1 hi; omega), hf⟩
        simp [hall]
    rw [← hval]
    cases (List.range (min ws.length 9)).all (okW xs ws) with
    | false => simp
    | true =>
      simp only [cond_true, Option.bind_some, Sum.elim_inl, s_goodS xs hx]
      cases goodS xs <;> rfl
  · intro i hi
    have hi' : i < ws.length := by omega
    have e0 : ((i : Int) < (ws.length : Int)) := by omega
    have e8 : ((i : Int) ≤ 8) := by omega
    simp only [e0, e8, decide_true, cond_true, gxIdx_nat hi', Option.bind_some, M.s_l6Irq, M.s_l6Prio, s_in, s_find xs _ hx, s_less]
    unfold okW inR
    rw [getD_at hi']
    cases (decide (0 ≤ ws[i].Irq) && decide (ws[i].Irq ≤ 7)) with
    | false => rfl
    | true => cases (decide (0 ≤ ws[i].Priority) && decide (ws[i].Priority ≤ 15)) with
      | false => rfl
      | true =>
        by_cases hf : fndS xs ws[i].Irq < 0
        · have hf2 : ¬ (fndS xs ws[i].Irq ≥ 0) := by omega
          simp only [hf, hf2, decide_true, decide_false, Bool.not_true, cond_false, Option.bind_some, Bool.true_and]
          have hin : whileM (σ := Int) (ρ := (Unit) ⊕ (Bool)) (fun s1770 =>
              bif decide (s1770 < (i : Int)) then (Option.bind (gxIdx ws s1770) fun y1782 =>
              bif y1782.Irq == ws[i].Irq then some (.inr (.inr false))
              else some (.inl (w64 (s1770 + 1))))
              else some (.inr (.inl ()))) gxFuel 0 = some (bif freshW ws i then .inl () else .inr false) := by
            unfold freshW
            refine while_all (fun j => (j : Int)) (fun j => !((ws.getD j gW).Irq == (ws.getD i gW).Irq)) (Sum.inr false : Unit ⊕ Bool) (Sum.inl ()) i (by simp) (by omega) (fun j hj => ?_) ?_
            · have e1 : ((j : Int) < (i : Int)) := by omega
              simp only [e1, decide_true, cond_true, gxIdx_nat (show j < ws.length by omega), Option.bind_some, getD_at hi', getD_at (show j < ws.length by omega), w64_succ (show j ≤ 4611686018427387904 by omega)]
              cases (ws[j].Irq == ws[i].Irq) <;> rfl
            · simp
          by_cases h0 : i = 0
          · subst h0
            have hz : ¬ (((0 : Nat) : Int) > 0) := by omega
            simp only [hz, decide_false, cond_false, Option.bind_some, decide_true, Bool.true_or, Bool.and_true]
            rw [hin]
            cases freshW ws 0 <;> rfl
          · have hz : ((i : Int) > 0) := by omega
            simp only [hz, h0, decide_true, decide_false, cond_true, Option.bind_some, Bool.false_or, gxIdx_prevZ (z := gW) hi' (show 0 < i by omega) (by omega)]
            cases lessU (ws.getD (i - 1) gW).Priority (ws.getD (i - 1) gW).Irq ws[i].Priority ws[i].Irq with
            | false => simp
            | true =>
              simp only [Bool.not_true, cond_false, Bool.and_true]
              rw [hin, Option.bind_some]
              cases freshW ws i with
              | false => rfl
              | true =>
                simp only [cond_true, Sum.elim_inl, w64_succ (show i ≤ 4611686018427387904 by omega)]
        · have hf2 : (fndS xs ws[i].Irq ≥ 0) := by omega
          simp [hf, hf2]
  · by_cases hl : ws.length ≤ 9
    · have e1 : min ws.length 9 = ws.length := by omega
      rw [e1]
      simp
    · have e1 : min ws.length 9 = 9 := by omega
      have e2 : (((9 : Nat) : Int) < (ws.length : Int)) := by omega
      rw [e1]
      simp only [e2, decide_true, cond_true]
      rfl
theorem i_windex (ws : List Waiter) (i : Nat) (hi : i < ws.length) (hw : ws.length ≤ 1048576) : ∃ r, M.i_waiterIndex (ws.take i) ws[i].Irq = some r ∧ decide (r ≥ 0) = !(freshW ws i) := by
  unfold M.i_waiterIndex M.slices_IndexFunc_166__i_waiterIndex_1
  have hl : (ws.take i).length = i := by simp; omega
  rw [while_first (fun j => (j : Int)) (fun j => (ws.getD j gW).Irq == (ws.getD i gW).Irq) (fun j => (Sum.inr (j : Int) : Unit ⊕ Int)) (Sum.inl ()) i (by simp) (by omega)]
  · unfold freshW
    cases hf : (List.range i).find? (fun j => (ws.getD j gW).Irq == (ws.getD i gW).Irq) with
    | none =>
      have hall : (List.range i).all (fun j => !((ws.getD j gW).Irq == (ws.getD i gW).Irq)) = true := List.all_eq_true.2 fun j hj => by
        have := List.find?_eq_none.1 hf j hj
        simpa using this
      rw [hall]
      exact ⟨_, rfl, rfl⟩
    | some j =>
      obtain ⟨h1, h2, _⟩ := List.find?_range_eq_some.1 hf
      have hall : (List.range i).all (fun j => !((ws.getD j gW).Irq == (ws.getD i gW).Irq)) = false := List.all_eq_false.2 ⟨j, h2, by simpa using h1⟩
      rw [hall]
      have : ((j : Int) ≥ 0) := by omega
      exact ⟨_, rfl, by simp [this]⟩
  · intro j hj
    have e0 : ((j : Int) < ((ws.take i).length : Int)) := by omega
    have hj' : j < (ws.take i).length := by omega
    simp only [e0, decide_true, cond_true, gxIdx_nat hj', List.getElem_take, Option.bind_some, M.i_waiterIndex_1, getD_at hi, getD_at (show j < ws.length by omega), w64_succ (show j ≤ 4611686018427387904 by omega)]
    cases (ws[j].Irq == ws[i].Irq) <;> rfl
  · rw [hl]
    simp
theorem i_parts (xs : List Slot) (ws : List Waiter) (hx : xs.length ≤ 1048576) (hw : ws.length ≤ 1048576) : M.i_areParts xs ws = some (goodP xs ws) := by
  unfold M.i_areParts goodP
  rw [i_goodS xs hx, Option.bind_some]
  cases goodS xs with
  | false => rfl
  | true =>
    simp only [Bool.not_true, cond_false, Bool.true_and]
    rw [while_all (fun i => (i : Int)) (okW xs ws) (Sum.inr false : Unit ⊕ Bool) (Sum.inl ()) ws.length (by simp) (by omega)]
    · cases (List.range ws.length).all (okW xs ws) <;> simp
    · intro i hi
      have e0 : ((i : Int) < (ws.length : Int)) := by omega
      have hsl : gxSlice ws 0 (i : Int) = some (ws.take i) := by
        unfold gxSlice
        rw [if_pos ⟨by omega, by omega, by omega⟩]
        simp
      obtain ⟨r, hr, hr2⟩ := i_windex ws i hi hw
      simp only [e0, decide_true, cond_true, gxIdx_nat hi, Option.bind_some, M.i_isIrq, M.i_isPriority, i_in, i_find xs _ hx, hsl, hr, hr2, i_cmpU, cmpU_ge, w64_succ (show i ≤ 4611686018427387904 by omega)]
      unfold okW inR
      rw [getD_at hi]
      cases (decide (0 ≤ ws[i].Irq) && decide (ws[i].Irq ≤ 7)) with
      | false => rfl
      | true => cases (decide (0 ≤ ws[i].Priority) && decide (ws[i].Priority ≤ 15)) with
        | false => rfl
        | true =>
          by_cases hf : fndS xs ws[i].Irq < 0
          · have hf2 : ¬ (fndS xs ws[i].Irq ≥ 0) := by omega
            simp only [hf, hf2, decide_true, decide_false, Bool.not_true, cond_false, Option.bind_some, Bool.true_and]
            cases freshW ws i with
            | false => rfl
            | true =>
              by_cases h0 : i = 0
              · subst h0
                have hz : ¬ (((0 : Nat) : Int) > 0) := by omega
                simp [hz]
              · have hz : ((i : Int) > 0) := by omega
                simp only [hz, h0, decide_true, decide_false, Bool.not_true, cond_false, cond_true, Option.bind_some, Bool.false_or, Bool.true_and, gxIdx_prevZ (z := gW) hi (show 0 < i by omega) (by omega)]
                cases lessU (ws.getD (i - 1) gW).Priority (ws.getD (i - 1) gW).Irq ws[i].Priority ws[i].Irq <;> rfl
          · have hf2 : (fndS xs ws[i].Irq ≥ 0) := by omega
            simp [hf, hf2]
    · simp
def frS (xs : List Slot) : Int := match (List.range xs.length).find? (fun i => (xs.getD i gS).State == 0) with
  | some i => (i : Int)
  | none => -1
theorem s_free (xs : List Slot) (h : xs.length ≤ 1048576) : M.s_l8Free xs = some (frS xs) := by
  unfold M.s_l8Free frS
  rw [while_first (fun i => (i : Int)) (fun i => (xs.getD i gS).State == 0) (fun i => (Sum.inr (i : Int) : Unit ⊕ Int)) (Sum.inl ()) xs.length (by simp) (by omega)]
  · cases (List.range xs.length).find? (fun i => (xs.getD i gS).State == 0) <;> rfl
  · intro i hi
    have e0 : ((i : Int) < (xs.length : Int)) := by omega
    simp only [e0, decide_true, cond_true, gxIdx_nat hi, Option.bind_some, getD_at hi, w64_succ (show i ≤ 4611686018427387904 by omega)]
    cases (xs[i].State == 0) <;> rfl
  · simp
theorem i_free (xs : List Slot) (h : xs.length ≤ 1048576) : M.i_firstEmpty xs = some (frS xs) := by
  unfold M.i_firstEmpty M.slices_IndexFunc_210__i_firstEmpty_1 frS
  rw [while_first (fun i => (i : Int)) (fun i => (xs.getD i gS).State == 0) (fun i => (Sum.inr (i : Int) : Unit ⊕ Int)) (Sum.inl ()) xs.length (by simp) (by omega)]
  · cases (List.range xs.length).find? (fun i => (xs.getD i gS).State == 0) <;> rfl
  · intro i hi
    have e0 : ((i : Int) < (xs.length : Int)) := by omega
    simp only [e0, decide_true, cond_true, gxIdx_nat hi, Option.bind_some, M.i_firstEmpty_1, getD_at hi, w64_succ (show i ≤ 4611686018427387904 by omega)]
    cases (xs[i].State == 0) <;> rfl
  · simp
def bestF (xs : List Slot) : Nat → Int
  | 0 => -1
  | i + 1 => bif (xs.getD i gS).State == 1 then (bif decide (bestF xs i < 0) || lessU (xs.getD (bestF xs i).toNat gS).Priority (xs.getD (bestF xs i).toNat gS).Irq (xs.getD i gS).Priority (xs.getD i gS).Irq then (i : Int) else bestF xs i) else bestF xs i
theorem bestF_at (xs : List Slot) : ∀ i, bestF xs i < 0 ∨ ∃ k, k < i ∧ bestF xs i = (k : Int) ∧ (xs.getD k gS).State = 1
  | 0 => Or.inl (by simp [bestF])
  | i + 1 => by
    have ih := bestF_at xs i
    have hih : bestF xs i < 0 ∨ ∃ k, k < i + 1 ∧ bestF xs i = (k : Int) ∧ (xs.getD k gS).State = 1 := by
      rcases ih with h | ⟨k, h1, h2, h3⟩
      · exact Or.inl h
      · exact Or.inr ⟨k, by omega, h2, h3⟩
    unfold bestF
    cases hs : ((xs.getD i gS).State == 1) with
    | false => exact hih
    | true =>
      simp only [cond_true]
      cases (decide (bestF xs i < 0) || lessU (xs.getD (bestF xs i).toNat gS).Priority (xs.getD (bestF xs i).toNat gS).Irq (xs.getD i gS).Priority (xs.getD i gS).Irq) with
      | false => exact hih
      | true => exact Or.inr ⟨i, by omega, rfl, by simpa using hs⟩
theorem s_best (xs : List Slot) (h : xs.length ≤ 1048576) : M.s_l8Best xs false = some (bestF xs xs.length) := by
  unfold M.s_l8Best
  rw [while_run (fun i => (bestF xs i, (i : Int))) (bestF xs xs.length) xs.length (by simp [bestF]) (by omega)]
  · rfl
  · intro i hi
    have e0 : ((i : Int) < (xs.length : Int)) := by omega
    simp only [e0, decide_true, cond_true, gxIdx_nat hi, Option.bind_some, s_less, w64_succ (show i ≤ 4611686018427387904 by omega)]
    have hb : bestF xs (i + 1) = bif xs[i].State == 1 then (bif decide (bestF xs i < 0) || lessU (xs.getD (bestF xs i).toNat gS).Priority (xs.getD (bestF xs i).toNat gS).Irq xs[i].Priority xs[i].Irq then (i : Int) else bestF xs i) else bestF xs i := by
      rw [bestF, getD_at hi]
    rw [hb]
    cases hs : (xs[i].State == 1) with
    | false => simp [bne, hs]
    | true =>
      simp only [bne, hs, Bool.not_true, cond_false, cond_true]
      rcases bestF_at xs i with hn | ⟨k, hk, he, _⟩
      · simp [hn]
      · have hkl : k < xs.length := by omega
        have hnn : ¬ ((k : Int) < 0) := by omega
        simp only [he, hnn, decide_false, cond_false, Bool.not_false, cond_true, gxIdx_nat hkl, Option.bind_some, Int.toNat_natCast, getD_at hkl, Bool.false_or]
        cases lessU xs[k].Priority xs[k].Irq xs[i].Priority xs[i].Irq <;> rfl
  · simp
theorem lessU_not {p q r s : Int} (h : q ≠ s) : (!(lessU p q r s)) = lessU r s p q := by
  unfold lessU
  rw [Bool.eq_iff_iff]
  simp only [Bool.not_eq_true', Bool.or_eq_false_iff, Bool.and_eq_false_iff, decide_eq_false_iff_not, Bool.or_eq_true, Bool.and_eq_true, decide_eq_true_eq, beq_iff_eq, beq_eq_false_iff_ne]
  omega
theorem irq_ne {xs : List Slot} (hg : goodS xs = true) {k i : Nat} (hk : k < i) (hi : i < xs.length) (hs : (xs[i].State == 0) = false) (hs2 : ((xs[k]'(by omega)).State == 0) = false) : (xs[k]'(by omega)).Irq ≠ xs[i].Irq := by
  unfold goodS at hg
  rw [Bool.and_eq_true, List.all_eq_true] at hg
  have := hg.2 i (List.mem_range.2 hi)
  unfold okSl freshS at this
  rw [getD_at hi, hs] at this
  simp only [Bool.and_eq_true, cond_false, List.all_eq_true] at this
  have h2 := this.2.2.2 k (List.mem_range.2 hk)
  rw [getD_at (show k < xs.length by omega)] at h2
  unfold mtS at h2
  simp only [bne, hs2, Bool.not_false, Bool.true_and, Bool.not_eq_true', beq_eq_false_iff_ne] at h2
  exact h2
theorem i_best (xs : List Slot) (h : xs.length ≤ 1048576) (hg : goodS xs = true) : M.i_pendingSlot xs false = some (bestF xs xs.length) := by
  unfold M.i_pendingSlot
  rw [while_run (fun i => (bestF xs i, (i : Int))) (bestF xs xs.length) xs.length (by simp [bestF]) (by omega)]
  · rfl
  · intro i hi
    have e0 : ((i : Int) < (xs.length : Int)) := by omega
    simp only [e0, decide_true, cond_true, gxIdx_nat hi, Option.bind_some, M.i_waiterOf, i_cmpU, w64_succ (show i ≤ 4611686018427387904 by omega)]
    have hb : bestF xs (i + 1) = bif xs[i].State == 1 then (bif decide (bestF xs i < 0) || lessU (xs.getD (bestF xs i).toNat gS).Priority (xs.getD (bestF xs i).toNat gS).Irq xs[i].Priority xs[i].Irq then (i : Int) else bestF xs i) else bestF xs i := by
      rw [bestF, getD_at hi]
    rw [hb]
    cases hs : (xs[i].State == 1) with
    | false => simp
    | true =>
      simp only [cond_true]
      rcases bestF_at xs i with hn | ⟨k, hk, he, hk1⟩
      · simp [hn]
      · have hkl : k < xs.length := by omega
        have hnn : ¬ ((k : Int) < 0) := by omega
        rw [getD_at hkl] at hk1
        have hs1 : xs[i].State = 1 := by simpa using hs
        have hne := irq_ne hg hk hi (by simp [hs1]) (by simp [hk1])
        have hl := lessU_not (p := xs[i].Priority) (r := xs[k].Priority) (q := xs[i].Irq) (s := xs[k].Irq) (fun e => hne e.symm)
        simp only [he, hnn, decide_false, cond_false, gxIdx_nat hkl, Option.bind_some, Int.toNat_natCast, getD_at hkl, Bool.false_or, cmpU_lt, beq_false, hl]
        cases lessU xs[k].Priority xs[k].Irq xs[i].Priority xs[i].Irq <;> rfl
  · simp
def setQ (q : Queue) : Bool := bif (q.Waiting.length : Int) == 0 then true else (bif decide (frS q.Slots ≥ 0) then false else (bif decide (bestF q.Slots q.Slots.length < 0) then true else lessU (q.Slots.getD (bestF q.Slots q.Slots.length).toNat gS).Priority (q.Slots.getD (bestF q.Slots q.Slots.length).toNat gS).Irq (q.Waiting.getD 0 gW).Priority (q.Waiting.getD 0 gW).Irq))
theorem s_settled (q : Queue) (h : q.Slots.length ≤ 1048576) : M.s_l9Settled q = some (setQ q) := by
  unfold M.s_l9Settled setQ
  cases hw : ((q.Waiting.length : Int) == 0) with
  | true => rfl
  | false =>
    have hw' : 0 < q.Waiting.length := by
      have : ¬ ((q.Waiting.length : Int) = 0) := by simpa using hw
      omega
    have h0 : gxIdx q.Waiting 0 = some (q.Waiting.getD 0 gW) := by rw [getD_at hw']; exact gxIdx_nat hw'
    simp only [cond_false, s_free _ h, Option.bind_some, s_best _ h, s_less, h0]
    cases decide (frS q.Slots ≥ 0) with
    | true => rfl
    | false =>
      simp only [cond_false]
      rcases bestF_at q.Slots q.Slots.length with hn | ⟨k, hk, he, _⟩
      · simp [hn]
      · have hnn : ¬ ((k : Int) < 0) := by omega
        simp only [he, hnn, decide_false, cond_false, gxIdx_nat hk, Option.bind_some, Int.toNat_natCast, getD_at hk]
theorem i_settled (q : Queue) (h : q.Slots.length ≤ 1048576) (hg : goodS q.Slots = true) : M.i_isSettled q = some (setQ q) := by
  unfold M.i_isSettled setQ
  cases hw : ((q.Waiting.length : Int) == 0) with
  | true => rfl
  | false =>
    have hw' : 0 < q.Waiting.length := by
      have : ¬ ((q.Waiting.length : Int) = 0) := by simpa using hw
      omega
    have h0 : gxIdx q.Waiting 0 = some (q.Waiting.getD 0 gW) := by rw [getD_at hw']; exact gxIdx_nat hw'
    simp only [cond_false, i_free _ h, Option.bind_some, i_best _ h hg, i_cmpU, h0, M.i_waiterOf, cmpU_gt]
    by_cases hf : frS q.Slots < 0
    · have hf2 : ¬ (frS q.Slots ≥ 0) := by omega
      simp only [hf, hf2, decide_true, decide_false, cond_true, cond_false]
      rcases bestF_at q.Slots q.Slots.length with hn | ⟨k, hk, he, _⟩
      · simp [hn]
      · have hnn : ¬ ((k : Int) < 0) := by omega
        simp only [he, hnn, decide_false, cond_false, gxIdx_nat hk, Option.bind_some, Int.toNat_natCast, getD_at hk]
    · have hf2 : (frS q.Slots ≥ 0) := by omega
      simp [hf, hf2]
def goodQ (q : Queue) : Bool := goodP q.Slots q.Waiting && setQ q
theorem s_goodQ (q : Queue) (h : q.Slots.length ≤ 1048576 ∧ q.Waiting.length ≤ 1048576) : M.s_l9Good q = some (goodQ q) := by
  unfold M.s_l9Good goodQ
  rw [s_waiting _ _ h.1 h.2, Option.bind_some, s_settled q h.1]
  cases goodP q.Slots q.Waiting <;> rfl
theorem i_goodQ (q : Queue) (h : q.Slots.length ≤ 1048576 ∧ q.Waiting.length ≤ 1048576) : M.i_IsQueue q = some (goodQ q) := by
  unfold M.i_IsQueue goodQ
  rw [i_parts _ _ h.1 h.2, Option.bind_some]
  cases hg : goodP q.Slots q.Waiting with
  | false => rfl
  | true =>
    unfold goodP at hg
    rw [Bool.and_eq_true] at hg
    rw [cond_true, i_settled q h.1 hg.1]
    rfl
end Go.Proofs.YtllhajkgkghhdaaGreat
set_option linter.unusedVariables false
set_option linter.unusedSimpArgs false
set_option maxHeartbeats 4000000
namespace Go.Proofs.YtllhajkgkghhdaaGreat
open Go.Gx
theorem while_filter {α β : Type} {xs : List α} (p : α → Bool) (f : α → β) {body : List β × Int → Option ((List β × Int) ⊕ List β)} (hl : xs.length ≤ 1099511627776)
    (h : ∀ (i : Nat) (hi : i < xs.length) (acc : List β), acc.length ≤ i → body (acc, (i : Int)) = some (.inl (bif p xs[i] then acc ++ [f xs[i]] else acc, w64 ((i : Int) + 1))))
    (he : ∀ acc, body (acc, (xs.length : Int)) = some (.inr acc)) : whileM body gxFuel ([], 0) = some ((xs.filter p).map f) := by
  refine while_run (fun i => (((xs.take i).filter p).map f, (i : Int))) _ xs.length (by simp) (by omega) (fun i hi => ?_) ?_
  · have hle : (((xs.take i).filter p).map f).length ≤ i := by
      rw [List.length_map]
      exact Nat.le_trans (List.length_filter_le _ _) (by simp; omega)
    rw [h i hi _ hle, w64_succ (by omega), List.take_add_one, List.getElem?_eq_getElem hi, Option.toList_some, List.filter_append, List.map_append]
    cases hp : p xs[i] <;> simp [hp]
  · rw [he, List.take_length]
theorem while_place {α : Type} {xs : List α} (p : α → Bool) {body : Int → Option (Int ⊕ Int)} (hl : xs.length ≤ 1099511627776)
    (h : ∀ (i : Nat) (hi : i < xs.length), body (i : Int) = some (bif p xs[i] then .inl (w64 ((i : Int) + 1)) else .inr (i : Int)))
    (he : body (xs.length : Int) = some (.inr (xs.length : Int))) : whileM body gxFuel 0 = some ((xs.takeWhile p).length : Int) := by
  have hk : (xs.takeWhile p).length ≤ xs.length := (List.takeWhile_prefix p).length_le
  refine while_run (fun i => (i : Int)) _ (xs.takeWhile p).length (by simp) (by omega) (fun i hi => ?_) ?_
  · have hi' : i < xs.length := by omega
    have hp : p xs[i] = true := by
      have h1 : (xs.takeWhile p)[i] = xs[i] := (List.takeWhile_prefix p).getElem hi
      have h2 := List.all_takeWhile (p := p) (l := xs)
      rw [List.all_eq_true] at h2
      rw [← h1]
      exact h2 _ (List.getElem_mem hi)
    rw [h i hi', hp, w64_succ (by omega)]
    rfl
  · by_cases hlt : (xs.takeWhile p).length < xs.length
    · have hp : p xs[(xs.takeWhile p).length] = false := by
        have h1 : xs = xs.takeWhile p ++ xs.dropWhile p := (List.takeWhile_append_dropWhile).symm
        cases hd : xs.dropWhile p with
        | nil => rw [hd, List.append_nil] at h1; rw [← h1] at hlt; omega
        | cons y r =>
          have h2 : p y = false := by
            have := List.head_dropWhile_not p (l := xs) (by rw [hd]; simp)
            simpa [hd] using this
          have h3 : xs[(xs.takeWhile p).length]? = some y := by
            conv => lhs; arg 1; rw [h1]
            rw [List.getElem?_append_right (Nat.le_refl _), Nat.sub_self, hd]
            rfl
          rw [List.getElem?_eq_getElem hlt] at h3
          rw [Option.some.inj h3]
          exact h2
      rw [h _ hlt, hp]
      rfl
    · rw [show (xs.takeWhile p).length = xs.length by omega, he]
theorem gxSlice_take {α : Type} {xs : List α} {k : Nat} (h : k ≤ xs.length) : gxSlice xs 0 (k : Int) = some (xs.take k) := by
  unfold gxSlice
  rw [if_pos ⟨by omega, by omega, by omega⟩]
  simp
theorem gxSlice_drop {α : Type} {xs : List α} {k : Nat} (h : k ≤ xs.length) : gxSlice xs (k : Int) (xs.length : Int) = some (xs.drop k) := by
  unfold gxSlice
  rw [if_pos ⟨by omega, by omega, by omega⟩]
  simp
theorem while_inv_fuel {σ ρ : Type} {body : σ → Option (σ ⊕ ρ)} (R : Nat → σ → Prop) (Q : ρ → Prop) (n : Nat) (hstep : ∀ i s, i < n → R i s → (∃ s', body s = some (.inl s') ∧ R (i + 1) s') ∨ (∃ r, body s = some (.inr r) ∧ Q r)) (hend : ∀ s, R n s → ∃ r, body s = some (.inr r) ∧ Q r) : ∀ (k i fuel : Nat) (s : σ), i + k = n → k < fuel → R i s → ∃ r, whileM body fuel s = some r ∧ Q r
  | 0, i, fuel, s, hi, hf, hR => by
    obtain ⟨m, rfl⟩ : ∃ m, fuel = m + 1 := ⟨fuel - 1, by omega⟩
    obtain ⟨r, hr, hq⟩ := hend s (by rw [← hi]; exact hR)
    exact ⟨r, by simp only [whileM, hr], hq⟩
  | k + 1, i, fuel, s, hi, hf, hR => by
    obtain ⟨m, rfl⟩ : ∃ m, fuel = m + 1 := ⟨fuel - 1, by omega⟩
    rcases hstep i s (by omega) hR with ⟨s', hs, hR'⟩ | ⟨r, hr, hq⟩
    · obtain ⟨r, hr, hq⟩ := while_inv_fuel R Q n hstep hend k (i + 1) m s' (by omega) (by omega) hR'
      exact ⟨r, by simp only [whileM, hs]; exact hr, hq⟩
    · exact ⟨r, by simp only [whileM, hr], hq⟩
theorem while_inv {σ ρ : Type} {body : σ → Option (σ ⊕ ρ)} {s0 : σ} (R : Nat → σ → Prop) (Q : ρ → Prop) (n : Nat) (hn : n ≤ 4611686018427387904) (h0 : R 0 s0) (hstep : ∀ i s, i < n → R i s → (∃ s', body s = some (.inl s') ∧ R (i + 1) s') ∨ (∃ r, body s = some (.inr r) ∧ Q r)) (hend : ∀ s, R n s → ∃ r, body s = some (.inr r) ∧ Q r) : ∃ r, whileM body gxFuel s0 = some r ∧ Q r :=
  while_inv_fuel R Q n hstep hend n 0 gxFuel s0 (by omega) (by unfold gxFuel; omega) h0
def isAct (s : Slot) : Bool := s.State == 2 || s.State == 3
def actS (xs : List Slot) : List Int := (xs.filter isAct).map (·.Irq)
theorem actS_snoc (xs : List Slot) (s : Slot) : actS (xs ++ [s]) = actS xs ++ (bif isAct s then [s.Irq] else []) := by
  unfold actS
  rw [List.filter_append, List.map_append]
  cases h : isAct s <;> simp [h]
theorem isAct_ne {s : Slot} (h : isAct s = true) : (s.State == 0) = false := by
  unfold isAct at h
  simp only [Bool.or_eq_true, beq_iff_eq] at h
  have : s.State ≠ 0 := by omega
  simp [this]
theorem actS_new {xs : List Slot} (hg : goodS xs = true) {i : Nat} (hi : i < xs.length) (ha : isAct xs[i] = true) : xs[i].Irq ∉ actS (xs.take i) := by
  intro hc
  obtain ⟨s, hs, he⟩ := List.mem_map.1 hc
  obtain ⟨hm, hs2⟩ := List.mem_filter.1 hs
  obtain ⟨k, hk, hk2⟩ := List.getElem_of_mem hm
  have hki : k < i := by simp at hk; omega
  rw [List.getElem_take] at hk2
  exact irq_ne hg hki hi (isAct_ne ha) (by rw [hk2]; exact isAct_ne hs2) (by rw [hk2, he])
theorem actS_nodup {xs : List Slot} (hg : goodS xs = true) : ∀ i, i ≤ xs.length → (actS (xs.take i)).Nodup
  | 0, _ => by simp [actS]
  | i + 1, hi => by
    have ih := actS_nodup hg i (by omega)
    rw [List.take_add_one, List.getElem?_eq_getElem (show i < xs.length by omega), Option.toList_some, actS_snoc]
    cases ha : isAct (xs[i]'(by omega)) with
    | false => simpa using ih
    | true =>
      have hn := actS_new hg (show i < xs.length by omega) ha
      simp only [cond_true]
      rw [List.nodup_append]
      refine ⟨ih, by simp, fun a ha2 b hb => ?_⟩
      rw [List.mem_singleton.1 hb]
      exact fun e => hn (e ▸ ha2)
theorem s_put (l : List Int) (x : Int) (hl : l.length ≤ 1048576) (hx : x ∉ l) : ∃ r, M.s_l1Put l x = some r ∧ r.Perm (x :: l) := by
  unfold M.s_l1Put
  have hk : (l.takeWhile (fun y => decide (y < x))).length ≤ l.length := (List.takeWhile_prefix _).length_le
  rw [while_place (xs := l) (fun y => decide (y < x)) (by omega)]
  · have hno : (bif decide (((l.takeWhile (fun y => decide (y < x))).length : Int) < (l.length : Int)) then (Option.bind (gxIdx l ((l.takeWhile (fun y => decide (y < x))).length : Int)) fun y2907 => some (y2907 == x)) else some false) = some false := by
      by_cases hlt : (l.takeWhile (fun y => decide (y < x))).length < l.length
      · have e1 : (((l.takeWhile (fun y => decide (y < x))).length : Int) < (l.length : Int)) := by omega
        simp only [e1, decide_true, cond_true, gxIdx_nat hlt, Option.bind_some]
        have : (l[(l.takeWhile (fun y => decide (y < x))).length] == x) = false := by
          rw [beq_eq_false_iff_ne]
          exact fun e => hx (e ▸ List.getElem_mem hlt)
        rw [this]
      · have e1 : ¬ (((l.takeWhile (fun y => decide (y < x))).length : Int) < (l.length : Int)) := by omega
        simp only [e1, decide_false, cond_false]
    simp only [Option.bind_some]
    rw [hno]
    simp only [Option.bind_some, cond_false, gxSlice_take hk, gxSlice_drop hk]
    rw [gxApp_ok (by simp; omega), Option.bind_some, gxApp_ok (by simp; omega), Option.bind_some, gxApp_ok (by simp; omega), Option.bind_some]
    refine ⟨_, rfl, ?_⟩
    rw [List.nil_append, List.append_assoc, List.singleton_append]
    refine List.perm_middle.trans ?_
    rw [List.take_append_drop]
  · intro i hi
    have e0 : ((i : Int) < (l.length : Int)) := by omega
    simp only [e0, decide_true, cond_true, gxIdx_nat hi, Option.bind_some]
    cases decide (l[i] < x) <;> rfl
  · simp
theorem s_active (xs : List Slot) (hg : goodS xs = true) : ∃ A, M.s_l8Active xs = some A ∧ A.Perm (actS xs) := by
  have h4 : xs.length = 4 := by
    unfold goodS at hg
    simp only [Bool.and_eq_true, beq_iff_eq] at hg
    omega
  unfold M.s_l8Active
  obtain ⟨A, hA, hp⟩ := while_inv (body := fun s3081 : List Int × Int =>
    bif decide (s3081.2 < (xs.length : Int)) then (Option.bind (α := Bool) (Option.bind (gxIdx xs s3081.2) fun y3109 =>
    bif y3109.State == 2 then some true
    else (Option.bind (gxIdx xs s3081.2) fun y3111 =>
    some (y3111.State == 3))) fun o3106 =>
    Option.bind (α := List Int) (bif o3106 then (Option.bind (gxIdx xs s3081.2) fun y3136 =>
    Option.bind (M.s_l1Put s3081.1 y3136.Irq) fun r3137 =>
    some r3137)
    else some s3081.1) fun o3127 =>
    some (Sum.inl (β := List Int) (o3127, w64 (s3081.2 + 1))))
    else some (.inr s3081.1)) (s0 := (([] : List Int), 0)) (fun i s => s.2 = (i : Int) ∧ s.1.Perm (actS (xs.take i))) (fun A => A.Perm (actS xs)) xs.length (by omega) ⟨rfl, by simp [actS]⟩ (fun i s hi hR => by
      obtain ⟨l, j⟩ := s
      obtain ⟨hj, hp⟩ := hR
      simp only at hj hp
      subst hj
      have e0 : ((i : Int) < (xs.length : Int)) := by omega
      have hact : (Option.bind (some xs[i]) fun (y3109 : Slot) => bif y3109.State == 2 then some true else (Option.bind (some xs[i]) fun (y3111 : Slot) => some (y3111.State == 3))) = some (isAct xs[i]) := by
        unfold isAct
        simp only [Option.bind_some]
        cases (xs[i].State == 2) <;> rfl
      simp only [e0, decide_true, cond_true, gxIdx_nat hi]
      rw [hact]
      simp only [Option.bind_some, w64_succ (show i ≤ 4611686018427387904 by omega)]
      have hsn : actS (xs.take (i + 1)) = actS (xs.take i) ++ (bif isAct xs[i] then [xs[i].Irq] else []) := by
        rw [List.take_add_one, List.getElem?_eq_getElem hi, Option.toList_some, actS_snoc]
      have hll : l.length ≤ 4 := by
        rw [hp.length_eq]
        unfold actS
        rw [List.length_map]
        have := List.length_filter_le isAct (xs.take i)
        have h2 : (xs.take i).length ≤ 4 := by simp; omega
        omega
      cases ha : isAct xs[i] with
      | false =>
        rw [ha] at hsn
        simp only [cond_false, List.append_nil] at hsn
        simp only [cond_false, Option.bind_some]
        exact Or.inl ⟨_, rfl, rfl, by simp only; rw [hsn]; exact hp⟩
      | true =>
        rw [ha] at hsn
        simp only [cond_true] at hsn
        have hn := actS_new hg hi ha
        obtain ⟨r, hr, hrp⟩ := s_put l xs[i].Irq (by omega) (fun hc => hn (hp.mem_iff.1 hc))
        simp only [cond_true, hr, Option.bind_some]
        refine Or.inl ⟨_, rfl, rfl, ?_⟩
        simp only
        rw [hsn]
        exact (hrp.trans (hp.cons _)).trans (List.perm_append_comm (l₁ := [xs[i].Irq])) ) (fun s hR => by
      obtain ⟨l, j⟩ := s
      obtain ⟨hj, hp⟩ := hR
      simp only at hj hp
      subst hj
      simp only [Int.lt_irrefl, decide_false, cond_false]
      rw [List.take_length] at hp
      exact ⟨_, rfl, hp⟩)
  rw [hA]
  exact ⟨A, rfl, hp⟩
theorem i_active (xs : List Slot) (h : xs.length ≤ 1048576) : M.i_activeIrqs xs = some (gxSortI (actS xs)) := by
  unfold M.i_activeIrqs
  rw [while_filter (xs := xs) isAct (·.Irq) (by omega)]
  · have hl : (actS xs).length < 4611686018427387904 := by
      unfold actS
      rw [List.length_map]
      have := List.length_filter_le isAct xs
      omega
    simp only [Option.bind_some]
    unfold M.slices_Sort_114
    have hl' : decide (((xs.filter isAct).map (·.Irq)).length < 4611686018427387904) = true := decide_eq_true hl
    rw [hl']
    rfl
  · intro i hi acc hacc
    have e0 : ((i : Int) < (xs.length : Int)) := by omega
    have hact : M.i_isActive xs[i] = some (isAct xs[i]) := by
      unfold M.i_isActive isAct
      cases (xs[i].State == 2) <;> rfl
    simp only [e0, decide_true, cond_true, gxIdx_nat hi, Option.bind_some, hact]
    cases isAct xs[i] with
    | false => rfl
    | true =>
      simp only [cond_true]
      rw [gxApp_ok (by simp; omega)]
      rfl
  · intro acc
    simp
theorem s_has (l : List Int) (x : Int) (h : l.length ≤ 1048576) : M.s_l1Has l x = some (decide (x ∈ l)) := by
  unfold M.s_l1Has
  rw [while_first (fun i => (i : Int)) (fun i => l.getD i 0 == x) (fun _ => (Sum.inr true : Unit ⊕ Bool)) (Sum.inl ()) l.length (by simp) (by omega)]
  · cases hf : (List.range l.length).find? (fun i => l.getD i 0 == x) with
    | none =>
      have : x ∉ l := fun hx => by
        obtain ⟨i, hi, he⟩ := List.getElem_of_mem hx
        have := List.find?_eq_none.1 hf i (List.mem_range.2 hi)
        rw [getD_at hi, he] at this
        simp at this
      simp [this]
    | some i =>
      obtain ⟨h1, h2, _⟩ := List.find?_range_eq_some.1 hf
      have h2 := List.mem_range.1 h2
      rw [getD_at h2, beq_iff_eq] at h1
      have : x ∈ l := h1 ▸ List.getElem_mem h2
      simp [this]
  · intro i hi
    have e0 : ((i : Int) < (l.length : Int)) := by omega
    simp only [e0, decide_true, cond_true, gxIdx_nat hi, Option.bind_some, getD_at hi, w64_succ (show i ≤ 4611686018427387904 by omega)]
    cases (l[i] == x) <;> rfl
  · simp
theorem i_equal (a b : List Int) (h : a.length ≤ 1048576) : M.slices_Equal_115 a b = some (decide (a = b)) := by
  unfold M.slices_Equal_115
  by_cases hl : a.length = b.length
  · have hlI : ((a.length : Int) != (b.length : Int)) = false := by simp [hl]
    rw [hlI, cond_false, while_all (fun i => (i : Int)) (fun i => a.getD i 0 == b.getD i 0) (Sum.inr false : Unit ⊕ Bool) (Sum.inl ()) a.length (by simp) (by omega)]
    · cases ha : (List.range a.length).all (fun i => a.getD i 0 == b.getD i 0) with
      | true =>
        have : a = b := by
          apply List.ext_getElem hl
          intro i h1 h2
          have := List.all_eq_true.1 ha i (List.mem_range.2 h1)
          rw [getD_at h1, getD_at h2] at this
          simpa using this
        simp [this]
      | false =>
        have : a ≠ b := fun e => by
          subst e
          rw [List.all_eq_false] at ha
          obtain ⟨i, _, hi⟩ := ha
          simp at hi
        simp [this]
    · intro i hi
      have e0 : ((i : Int) < (a.length : Int)) := by omega
      simp only [e0, decide_true, cond_true, gxIdx_nat hi, gxIdx_nat (show i < b.length by omega), Option.bind_some, getD_at hi, getD_at (show i < b.length by omega), bne, w64_succ (show i ≤ 4611686018427387904 by omega)]
      cases (a[i] == b[i]) <;> rfl
    · simp
  · have hlI : ((a.length : Int) != (b.length : Int)) = true := by simp; omega
    have : a ≠ b := fun e => hl (by rw [e])
    rw [hlI, cond_true]
    simp [this]
theorem sort_eq_iff (a b : List Int) : gxSortI a = gxSortI b ↔ a.Perm b := by
  unfold gxSortI
  constructor
  · intro h
    have h1 := (List.mergeSort_perm a (fun x y => decide (x ≤ y))).symm
    rw [h] at h1
    exact h1.trans (List.mergeSort_perm b _)
  · intro h
    have hs : ∀ l : List Int, (l.mergeSort fun x y => decide (x ≤ y)).Pairwise fun x y => decide (x ≤ y) = true := fun l => List.pairwise_mergeSort (fun a b c h1 h2 => by
      rw [decide_eq_true_eq] at *
      omega) (fun a b => by
      rw [Bool.or_eq_true, decide_eq_true_eq, decide_eq_true_eq]
      omega) l
    refine List.Perm.eq_of_pairwise (le := fun x y => decide (x ≤ y) = true) (fun x y _ _ h1 h2 => by
      rw [decide_eq_true_eq] at *
      omega) (hs a) (hs b) ?_
    exact ((List.mergeSort_perm a _).trans h).trans (List.mergeSort_perm b _).symm
def levS (xs : List Slot) (q : Int) : Int := (xs.getD (fndS xs q).toNat gS).Priority
theorem act_find {xs : List Slot} {q : Int} (h : q ∈ actS xs) : ¬ fndS xs q < 0 := by
  intro hn
  obtain ⟨s, hs, rfl⟩ := List.mem_map.1 h
  obtain ⟨hm, ha⟩ := List.mem_filter.1 hs
  obtain ⟨i, hi, rfl⟩ := List.getElem_of_mem hm
  have := fndS_neg.1 hn i hi
  unfold mtS at this
  simp [bne, isAct_ne ha] at this
theorem s_level (q : Queue) (irq : Int) (h : q.Slots.length ≤ 1048576) (hf : ¬ fndS q.Slots irq < 0) : M.s_l10Level q irq = some (levS q.Slots irq) := by
  unfold M.s_l10Level levS
  obtain ⟨i, hi, he, _⟩ := fndS_at hf
  rw [s_find _ _ h, Option.bind_some, he, gxIdx_nat hi, Option.bind_some, Int.toNat_natCast, getD_at hi]
theorem i_level (xs : List Slot) (irq : Int) (h : xs.length ≤ 1048576) (hf : ¬ fndS xs irq < 0) : M.i_priorityIn xs irq = some (levS xs irq) := by
  unfold M.i_priorityIn levS
  obtain ⟨i, hi, he, _⟩ := fndS_at hf
  rw [i_find _ _ h, Option.bind_some, he, gxIdx_nat hi, Option.bind_some, Int.toNat_natCast, getD_at hi]
def levsOk (xs : List Slot) (st : List Int) : Bool := (List.range st.length).all fun i => decide (i = 0) || decide (levS xs (st.getD (i - 1) 0) > levS xs (st.getD i 0))
def goodI (x : Interface) : Bool := inR x.Mask 0 16 && (goodQ x.Queue && (decide (gxSortI x.Stack = gxSortI (actS x.Queue.Slots)) && levsOk x.Queue.Slots x.Stack))
theorem goodQ_slots {q : Queue} (h : goodQ q = true) : goodS q.Slots = true := by
  unfold goodQ goodP at h
  simp only [Bool.and_eq_true] at h
  exact h.1.1
theorem s_goodI (x : Interface) (h : fitIf x) : M.s_l10Good x = some (goodI x) := by
  have hx := h.1
  have hq := h.2
  unfold M.s_l10Good goodI inR
  have hgq : M.s_l9Good (⟨x.Queue.Slots, x.Queue.Waiting⟩ : Queue) = some (goodQ x.Queue) := s_goodQ x.Queue hq
  simp only [s_in, hgq, Option.bind_some]
  cases (decide (0 ≤ x.Mask) && decide (x.Mask ≤ 16)) with
  | false => rfl
  | true => cases hg : goodQ x.Queue with
    | false => rfl
    | true =>
      have hs := goodQ_slots hg
      obtain ⟨A, hA, hp⟩ := s_active x.Queue.Slots hs
      have hnd : A.Nodup := hp.nodup_iff.2 (by have := actS_nodup hs x.Queue.Slots.length (Nat.le_refl _); rwa [List.take_length] at this)
      have hAl : A.length ≤ 1048576 := by
        rw [hp.length_eq]
        unfold actS
        rw [List.length_map]
        have := List.length_filter_le isAct x.Queue.Slots
        omega
      simp only [hA, Bool.not_true, cond_false, Option.bind_some, Bool.true_and]
      rw [while_upto (fun i => (i : Int)) (fun i => (decide (x.Stack.getD i 0 ∈ A) && !(decide (x.Stack.getD i 0 ∈ x.Stack.take i))) && (decide (i = 0) || decide (levS x.Queue.Slots (x.Stack.getD (i - 1) 0) > levS x.Queue.Slots (x.Stack.getD i 0)))) (Sum.inr false : Unit ⊕ Bool) (Sum.inl ()) x.Stack.length (by simp) (by omega)]
      · by_cases hperm : x.Stack.Perm A
        · have hsort : gxSortI x.Stack = gxSortI (actS x.Queue.Slots) := (sort_eq_iff _ _).2 (hperm.trans hp)
          have hndS : x.Stack.Nodup := hperm.nodup_iff.2 hnd
          have hlen : ((x.Stack.length : Int) == (A.length : Int)) = true := by rw [hperm.length_eq]; simp
          have hall : (List.range x.Stack.length).all (fun i => (decide (x.Stack.getD i 0 ∈ A) && !(decide (x.Stack.getD i 0 ∈ x.Stack.take i))) && (decide (i = 0) || decide (levS x.Queue.Slots (x.Stack.getD (i - 1) 0) > levS x.Queue.Slots (x.Stack.getD i 0)))) = levsOk x.Queue.Slots x.Stack := by
            unfold levsOk
            rw [Bool.eq_iff_iff, List.all_eq_true, List.all_eq_true]
            have hin : ∀ i, i < x.Stack.length → (decide (x.Stack.getD i 0 ∈ A) && !(decide (x.Stack.getD i 0 ∈ x.Stack.take i))) = true := fun i hi => by
              rw [getD_at hi]
              have h1 : x.Stack[i] ∈ A := hperm.mem_iff.1 (List.getElem_mem hi)
              have h2 : x.Stack[i] ∉ x.Stack.take i := fun hc => by
                obtain ⟨k, hk, hk2⟩ := List.getElem_of_mem hc
                have hki : k < i := by simp at hk; omega
                rw [List.getElem_take] at hk2
                have := (List.pairwise_iff_getElem.1 hndS) k i (by omega) hi hki
                exact this hk2
              simp [h1, h2]
            exact ⟨fun hh i hi => by have := hh i hi; rw [hin i (List.mem_range.1 hi)] at this; simpa using this, fun hh i hi => by rw [hin i (List.mem_range.1 hi)]; simpa using hh i hi⟩
          rw [hall, decide_eq_true hsort, Bool.true_and]
          cases levsOk x.Queue.Slots x.Stack with
          | false => rfl
          | true => simp only [cond_true, Option.bind_some, Sum.elim_inl, hlen]
        · have hsort : ¬ (gxSortI x.Stack = gxSortI (actS x.Queue.Slots)) := fun e => hperm (((sort_eq_iff _ _).1 e).trans hp.symm)
          rw [decide_eq_false hsort, Bool.false_and]
          cases hall : (List.range x.Stack.length).all (fun i => (decide (x.Stack.getD i 0 ∈ A) && !(decide (x.Stack.getD i 0 ∈ x.Stack.take i))) && (decide (i = 0) || decide (levS x.Queue.Slots (x.Stack.getD (i - 1) 0) > levS x.Queue.Slots (x.Stack.getD i 0)))) with
          | false => rfl
          | true =>
            rw [List.all_eq_true] at hall
            have hlen : ((x.Stack.length : Int) == (A.length : Int)) = false := by
              rw [beq_eq_false_iff_ne]
              intro hl
              refine hperm (nodup_perm ?_ (fun y hy => ?_) (by omega))
              · rw [List.Nodup, List.pairwise_iff_getElem]
                intro i j hi hj hij he
                have := hall j (List.mem_range.2 hj)
                simp only [Bool.and_eq_true, Bool.not_eq_true', decide_eq_false_iff_not] at this
                rw [getD_at hj] at this
                refine this.1.2 ?_
                rw [← he]
                have : x.Stack[i] = (x.Stack.take j)[i]'(by simp; omega) := by rw [List.getElem_take]
                rw [this]
                exact List.getElem_mem _
              · obtain ⟨i, hi, rfl⟩ := List.getElem_of_mem hy
                have := hall i (List.mem_range.2 hi)
                simp only [Bool.and_eq_true, decide_eq_true_eq] at this
                rw [getD_at hi] at this
                exact this.1.1
            simp only [cond_true, Option.bind_some, Sum.elim_inl, hlen]
      · intro i hi hprev
        have e0 : ((i : Int) < (x.Stack.length : Int)) := by omega
        have hsl : gxSlice x.Stack 0 (i : Int) = some (x.Stack.take i) := by
          unfold gxSlice
          rw [if_pos ⟨by omega, by omega, by omega⟩]
          simp
        simp only [e0, decide_true, cond_true, gxIdx_nat hi, Option.bind_some, s_has A _ hAl, hsl, s_has (x.Stack.take i) _ (show (x.Stack.take i).length ≤ 1048576 by simp; omega), getD_at hi, w64_succ (show i ≤ 4611686018427387904 by omega)]
        by_cases hin : x.Stack[i] ∈ A
        · by_cases hdup : x.Stack[i] ∈ x.Stack.take i
          · simp [hin, hdup]
          · by_cases h0 : i = 0
            · subst h0
              have hz : ¬ (((0 : Nat) : Int) > 0) := by omega
              simp [hin, hdup, hz]
            · have hz : ((i : Int) > 0) := by omega
              have hpl : i - 1 < x.Stack.length := by omega
              have hp1 := hprev (i - 1) (by omega)
              simp only [Bool.and_eq_true, decide_eq_true_eq] at hp1
              have hpa : x.Stack.getD (i - 1) 0 ∈ A := hp1.1.1
              have hl1 := s_level (⟨x.Queue.Slots, x.Queue.Waiting⟩ : Queue) (x.Stack.getD (i - 1) 0) hq.1 (act_find (hp.mem_iff.1 hpa))
              have hl2 := s_level (⟨x.Queue.Slots, x.Queue.Waiting⟩ : Queue) x.Stack[i] hq.1 (act_find (hp.mem_iff.1 hin))
              simp only [hin, hdup, hz, h0, decide_true, decide_false, Bool.not_true, Bool.not_false, cond_true, cond_false, Option.bind_some, Bool.true_and, Bool.false_or, gxIdx_prevZ (z := (0 : Int)) hi (show 0 < i by omega) (by omega), hl1, hl2]
              by_cases hlev : levS x.Queue.Slots (x.Stack.getD (i - 1) 0) ≤ levS x.Queue.Slots x.Stack[i]
              · have : ¬ (levS x.Queue.Slots (x.Stack.getD (i - 1) 0) > levS x.Queue.Slots x.Stack[i]) := by omega
                simp only [hlev, this, decide_true, decide_false, cond_true, cond_false]
              · have : (levS x.Queue.Slots (x.Stack.getD (i - 1) 0) > levS x.Queue.Slots x.Stack[i]) := by omega
                simp only [hlev, this, decide_true, decide_false, cond_true, cond_false]
        · simp [hin]
      · intro _
        simp
theorem i_goodI (x : Interface) (h : fitIf x) : M.i_IsInterface x = some (goodI x) := by
  have hx := h.1
  have hq := h.2
  unfold M.i_IsInterface goodI inR
  have hgq : M.i_IsQueue (⟨x.Queue.Slots, x.Queue.Waiting⟩ : Queue) = some (goodQ x.Queue) := i_goodQ x.Queue hq
  simp only [M.i_isMask, i_in, hgq, Option.bind_some]
  cases (decide (0 ≤ x.Mask) && decide (x.Mask ≤ 16)) with
  | false => rfl
  | true => cases hg : goodQ x.Queue with
    | false => rfl
    | true =>
      have hcp : M.i_copyInts x.Stack = some x.Stack := by
        unfold M.i_copyInts
        rw [gxApp_ok (by simp; omega)]
        rfl
      have hso : M.slices_Sort_114 x.Stack = some (gxSortI x.Stack) := by
        unfold M.slices_Sort_114
        rw [decide_eq_true (show x.Stack.length < 4611686018427387904 by omega)]
        rfl
      have hsl : (gxSortI x.Stack).length ≤ 1048576 := by simp [gxSortI]; omega
      simp only [Bool.not_true, cond_false, Bool.true_and, hcp, hso, i_active _ hq.1, i_equal _ _ hsl, Option.bind_some]
      by_cases hsort : gxSortI x.Stack = gxSortI (actS x.Queue.Slots)
      · have hperm := (sort_eq_iff _ _).1 hsort
        rw [decide_eq_true hsort]
        simp only [Bool.not_true, cond_false, Bool.true_and]
        have hin : ∀ i, (hi : i < x.Stack.length) → ¬ fndS x.Queue.Slots x.Stack[i] < 0 := fun i hi => act_find (hperm.mem_iff.1 (List.getElem_mem hi))
        rw [while_all (fun j => ((j + 1 : Nat) : Int)) (fun j => decide (levS x.Queue.Slots (x.Stack.getD j 0) > levS x.Queue.Slots (x.Stack.getD (j + 1) 0))) (Sum.inr false : Unit ⊕ Bool) (Sum.inl ()) (x.Stack.length - 1) (by simp) (by omega)]
        · have hlev : (List.range (x.Stack.length - 1)).all (fun j => decide (levS x.Queue.Slots (x.Stack.getD j 0) > levS x.Queue.Slots (x.Stack.getD (j + 1) 0))) = levsOk x.Queue.Slots x.Stack := by
            unfold levsOk
            rw [Bool.eq_iff_iff, List.all_eq_true, List.all_eq_true]
            constructor
            · intro hh i hi
              have hi := List.mem_range.1 hi
              by_cases h0 : i = 0
              · simp [h0]
              · have := hh (i - 1) (List.mem_range.2 (by omega))
                rw [Nat.sub_add_cancel (by omega)] at this
                simp only [h0, decide_false, Bool.false_or]
                exact this
            · intro hh j hj
              have := hh (j + 1) (List.mem_range.2 (by have := List.mem_range.1 hj; omega))
              simpa using this
          rw [hlev]
          cases levsOk x.Queue.Slots x.Stack <;> simp
        · intro j hj
          have hj1 : j + 1 < x.Stack.length := by omega
          have e0 : (((j + 1 : Nat) : Int) < (x.Stack.length : Int)) := by omega
          have hpr : gxIdx x.Stack (w64 (((j + 1 : Nat) : Int) - 1)) = some (x.Stack[j]'(by omega)) := by
            rw [w64_id (by omega) (by omega)]
            have e : ((j + 1 : Nat) : Int) - 1 = (j : Int) := by omega
            rw [e, gxIdx_nat (by omega)]
          simp only [e0, decide_true, cond_true, gxIdx_nat hj1, Option.bind_some, i_level _ _ hq.1 (hin (j + 1) hj1), hpr, i_level _ _ hq.1 (hin j (by omega)), getD_at hj1, getD_at (show j < x.Stack.length by omega), w64_succ (show j + 1 ≤ 4611686018427387904 by omega)]
          by_cases hlev : levS x.Queue.Slots x.Stack[j + 1] ≥ levS x.Queue.Slots (x.Stack[j]'(by omega))
          · have : ¬ (levS x.Queue.Slots (x.Stack[j]'(by omega)) > levS x.Queue.Slots x.Stack[j + 1]) := by omega
            simp only [hlev, this, decide_true, decide_false, cond_true, cond_false]
          · have : (levS x.Queue.Slots (x.Stack[j]'(by omega)) > levS x.Queue.Slots x.Stack[j + 1]) := by omega
            simp only [hlev, this, decide_true, decide_false, cond_true, cond_false]
        · have e0 : ¬ ((((x.Stack.length - 1) + 1 : Nat) : Int) < (x.Stack.length : Int)) := by omega
          simp only [e0, decide_false, cond_false]
      · rw [decide_eq_false hsort]
        rfl
end Go.Proofs.YtllhajkgkghhdaaGreat
set_option linter.unusedVariables false
set_option linter.unusedSimpArgs false
set_option maxHeartbeats 4000000
namespace Go.Proofs.YtllhajkgkghhdaaGreat
open Go.Gx
theorem i_routesZ (xs : List Route) (c : Int) (h : xs.length ≤ 1048576) : M.i_areRoutes xs c = some (okRts xs c) := by
  unfold M.i_areRoutes M.slices_ContainsFunc_109__i_areRoutes_1 M.slices_IndexFunc_159__i_areRoutes_1 okRts
  simp only [i_in, Option.bind_some]
  cases (decide (1 ≤ c) && decide (c ≤ 2)) with
  | false => rfl
  | true => cases ((xs.length : Int) == 8) with
    | false => rfl
    | true =>
      simp only [cond_true, Bool.true_and]
      rw [while_first (fun i => (i : Int)) (fun i => !(okRt c (xs.getD i ⟨0, 0⟩))) (fun i => (Sum.inr (i : Int) : Unit ⊕ Int)) (Sum.inl ()) xs.length (by simp) (by omega)]
      · cases hf : (List.range xs.length).find? (fun i => !(okRt c (xs.getD i ⟨0, 0⟩))) with
        | none =>
          have : (List.range xs.length).all (fun i => okRt c (xs.getD i ⟨0, 0⟩)) = true := by
            rw [List.all_eq_true]
            intro i hi
            have := List.find?_eq_none.1 hf i hi
            simpa using this
          rw [this]
          rfl
        | some i =>
          have h1 := List.find?_some hf
          have h2 := List.mem_of_find?_eq_some hf
          have : (List.range xs.length).all (fun i => okRt c (xs.getD i ⟨0, 0⟩)) = false := by
            rw [List.all_eq_false]
            exact ⟨i, h2, by simpa using h1⟩
          have hge : ((i : Int) ≥ 0) := by omega
          rw [this]
          simp only [Option.bind_some, Sum.elim_inr, hge, decide_true, Bool.not_true]
      · intro i hi
        have e0 : ((i : Int) < (xs.length : Int)) := by omega
        simp only [e0, decide_true, cond_true, gxIdx_nat hi, Option.bind_some, M.i_areRoutes_1, M.i_isPriority, i_in, getD_at hi, w64_succ (show i ≤ 4611686018427387904 by omega)]
        unfold okRt
        cases (decide (0 ≤ xs[i].Priority) && decide (xs[i].Priority ≤ 15)) with
        | false => rfl
        | true =>
          simp only [Bool.not_true, cond_false, Option.bind_some, Bool.true_and]
          cases (decide (0 ≤ xs[i].Target) && decide (xs[i].Target ≤ w64 (c - 1))) <;> rfl
      · simp
def okQueue (x : Queue) : Prop := okL okSlot x.Slots ∧ okL okWaiter x.Waiting
def okInterface (x : Interface) : Prop := okI x.Mask ∧ okL okI x.Stack ∧ okQueue x.Queue
def okMachine (x : Machine) : Prop := okL okRoute x.Routes ∧ okL okB x.Enabled ∧ okL okB x.Raised ∧ okL okInterface x.Cpus
theorem toIf_id (x : Interface) (h : fitIf x) : M.l_toInterface x = some x := by
  unfold M.l_toInterface M.l_toQueue
  simp only [toIntS_id _ (show x.Stack.length ≤ 1099511627776 by have := h.1; omega), toSlotS_id _ (show x.Queue.Slots.length ≤ 1099511627776 by have := h.2.1; omega), toWaiterS_id _ (show x.Queue.Waiting.length ≤ 1099511627776 by have := h.2.2; omega), Option.bind_some]
theorem toIfS_id (xs : List Interface) (hl : xs.length ≤ 1048576) (h : ∀ x ∈ xs, fitIf x) : M.l_toInterfaceS xs = some xs := by
  unfold M.l_toInterfaceS
  rw [gxMake_nat (by omega), Option.bind_some, while_run (fun i => ((i : Int), taken xs ⟨0, [], ⟨[], []⟩⟩ i)) xs xs.length (by simp [taken_zero]) (by omega)]
  · rfl
  · intro i hi
    have h1 : ((i : Int) < (xs.length : Int)) := by omega
    have h2 : i < (taken xs (⟨0, [], ⟨[], []⟩⟩ : Interface) i).length := by rw [taken_length (by omega)]; exact hi
    have h3 := toIf_id xs[i] (h _ (List.getElem_mem hi))
    simp only [h1, decide_true, cond_true, gxIdx_nat hi, gxIdx_nat h2, Option.bind_some]
    rw [h3]
    simp only [Option.bind_some, w64_succ (show i ≤ 4611686018427387904 by omega), Int.toNat_natCast]
    have := taken_set (z := (⟨0, [], ⟨[], []⟩⟩ : Interface)) hi
    rw [← this]
  · simp [taken_all]
theorem toMachine_id (m : Machine) (h : fitM m) : M.l_toMachine m = some m := by
  obtain ⟨h1, h2, h3, h4, h5, _⟩ := h
  unfold M.l_toMachine
  simp only [toRouteS_id _ (show m.Routes.length ≤ 1099511627776 by omega), toBoolS_id _ (show m.Enabled.length ≤ 1099511627776 by omega), toBoolS_id _ (show m.Raised.length ≤ 1099511627776 by omega), toIfS_id _ h4 h5, Option.bind_some]
theorem sz_len (n : Nat) (left : Int) (h : n ≤ 9223372036854775807) (hl : -1 ≤ left ∧ left ≤ 1048576) : ∃ q, (bif decide (w64 (left - (n : Int)) < 0) then some (-1 : Int) else some (w64 (left - (n : Int)))) = some q ∧ (q < 0 ∨ (0 ≤ q ∧ q ≤ left ∧ q + (n : Int) = left)) := by
  rw [w64_id (by omega) (by omega)]
  by_cases hc : left - (n : Int) < 0
  · exact ⟨-1, by simp [hc], Or.inl (by omega)⟩
  · exact ⟨left - n, by simp [hc], Or.inr (by omega)⟩
def nIf (x : Interface) : Nat := x.Stack.length + x.Queue.Slots.length + x.Queue.Waiting.length
theorem szIf_ex (x : Interface) (left : Int) (h : okInterface x) (hl : 0 ≤ left ∧ left ≤ 1048576) : ∃ q, M.l_szInterface x left = some q ∧ (q < 0 ∨ (0 ≤ q ∧ q ≤ left ∧ q + (nIf x : Int) = left)) := by
  unfold M.l_szInterface M.l_szQueue M.l_szIntS M.l_szSlotS M.l_szWaiterS nIf
  obtain ⟨q1, h1, e1⟩ := sz_len x.Stack.length left h.2.1.1 (by omega)
  rw [h1, Option.bind_some]
  rcases e1 with e1 | e1
  · simp only [e1, decide_true, cond_true]
    exact ⟨_, rfl, Or.inl (by omega)⟩
  obtain ⟨q2, h2, e2⟩ := sz_len x.Queue.Slots.length q1 h.2.2.1.1 (by omega)
  have hn1 : ¬ (q1 < 0) := by omega
  simp only [hn1, decide_false, cond_false]
  rw [h2, Option.bind_some]
  rcases e2 with e2 | e2
  · simp only [e2, decide_true, cond_true, Option.bind_some]
    exact ⟨_, rfl, Or.inl (by omega)⟩
  obtain ⟨q3, h3, e3⟩ := sz_len x.Queue.Waiting.length q2 h.2.2.2.1 (by omega)
  have hn2 : ¬ (q2 < 0) := by omega
  simp only [hn2, decide_false, cond_false]
  rw [h3, Option.bind_some]
  rcases e3 with e3 | e3
  · simp only [e3, decide_true, cond_true, Option.bind_some]
    exact ⟨_, rfl, Or.inl (by omega)⟩
  have hn3 : ¬ (q3 < 0) := by omega
  simp only [hn3, decide_false, cond_false, Option.bind_some]
  exact ⟨_, rfl, Or.inr (by omega)⟩
def nIfs (xs : List Interface) : Nat := (xs.map nIf).sum
theorem nIfs_snoc (xs : List Interface) (x : Interface) : nIfs (xs ++ [x]) = nIfs xs + nIf x := by simp [nIfs]
theorem szIfS_ex (xs : List Interface) (left : Int) (h : okL okInterface xs) (hl : -1 ≤ left ∧ left ≤ 1048576) : ∃ q, M.l_szInterfaceS xs left = some q ∧ (q < 0 ∨ (0 ≤ q ∧ q ≤ left ∧ q + (nIfs xs : Int) + (xs.length : Int) = left)) := by
  unfold M.l_szInterfaceS
  have h1 := h.1
  rw [w64_id (by omega) (by omega)]
  by_cases hc : left - (xs.length : Int) < 0
  · simp only [hc, decide_true, cond_true]
    exact ⟨-1, rfl, Or.inl (by omega)⟩
  · simp only [hc, decide_false, cond_false]
    obtain ⟨r, hr, hq⟩ := while_inv (body := fun s185 : Int × Int =>
      bif decide (s185.2 < (xs.length : Int)) then (Option.bind (gxIdx xs s185.2) fun y197 =>
      Option.bind (M.l_szInterface (⟨y197.Mask, y197.Stack, (⟨y197.Queue.Slots, y197.Queue.Waiting⟩ : Queue)⟩ : Interface) s185.1) fun r207 =>
      bif decide (r207 < 0) then some (Sum.inr (α := Int × Int) (Sum.inr (α := Int) (-1 : Int)))
      else some (.inl (r207, w64 (s185.2 + 1))))
      else some (.inr (.inl s185.1))) (s0 := (left - (xs.length : Int), 0)) (fun i s => s.2 = (i : Int) ∧ 0 ≤ s.1 ∧ s.1 + (nIfs (xs.take i) : Int) = left - (xs.length : Int)) (fun r => (∃ q, r = Sum.inl q ∧ 0 ≤ q ∧ q + (nIfs xs : Int) = left - (xs.length : Int)) ∨ r = Sum.inr (-1)) xs.length (by omega) ⟨rfl, by simp only; omega, by simp [nIfs]⟩ (fun i s hi hR => by
        obtain ⟨l, j⟩ := s
        obtain ⟨hj, hl0, hls⟩ := hR
        simp only at hj hl0 hls
        subst hj
        have e0 : ((i : Int) < (xs.length : Int)) := by omega
        obtain ⟨q, hq, e⟩ := szIf_ex xs[i] l (h.2 _ (List.getElem_mem hi)) (by omega)
        simp only [e0, decide_true, cond_true, gxIdx_nat hi, Option.bind_some]
        rw [hq, Option.bind_some]
        rcases e with e | e
        · simp only [e, decide_true, cond_true]
          exact Or.inr ⟨_, rfl, Or.inr rfl⟩
        · have hn : ¬ (q < 0) := by omega
          simp only [hn, decide_false, cond_false, w64_succ (show i ≤ 4611686018427387904 by omega)]
          refine Or.inl ⟨_, rfl, rfl, by simp only; omega, ?_⟩
          rw [List.take_add_one, List.getElem?_eq_getElem hi, Option.toList_some, nIfs_snoc]
          simp only
          omega) (fun s hR => by
        obtain ⟨l, j⟩ := s
        obtain ⟨hj, hl0, hls⟩ := hR
        simp only at hj hl0 hls
        subst hj
        rw [List.take_length] at hls
        simp only [Int.lt_irrefl, decide_false, cond_false]
        exact ⟨_, rfl, Or.inl ⟨_, rfl, hl0, hls⟩⟩)
    rw [hr, Option.bind_some]
    rcases hq with ⟨q, rfl, h2, h3⟩ | rfl
    · exact ⟨q, rfl, Or.inr (by omega)⟩
    · exact ⟨-1, rfl, Or.inl (by omega)⟩
theorem mem_nIfs {xs : List Interface} {x : Interface} (h : x ∈ xs) : nIf x ≤ nIfs xs := by
  induction xs with
  | nil => cases h
  | cons y r ih =>
    simp only [nIfs, List.map_cons, List.sum_cons]
    rcases List.mem_cons.1 h with rfl | h
    · omega
    · have := ih h
      unfold nIfs at this
      omega
theorem wIfs_le (xs : List Interface) : wIfs xs ≤ 3 * nIfs xs + xs.length := by
  induction xs with
  | nil => simp [wIfs, nIfs]
  | cons y r ih =>
    simp only [wIfs, nIfs, List.map_cons, List.sum_cons, List.length_cons] at ih ⊢
    have : wIf y ≤ 3 * nIf y + 1 := by unfold wIf nIf; omega
    omega
theorem szMachine_ex (m : Machine) (left : Int) (h : okMachine m) (hl : 0 ≤ left ∧ left ≤ 1048576) : ∃ q, M.l_szMachine m left = some q ∧ (q < 0 ∨ (0 ≤ q ∧ q ≤ left ∧ fitM m)) := by
  unfold M.l_szMachine M.l_szRouteS M.l_szBoolS
  obtain ⟨q1, h1, e1⟩ := sz_len m.Routes.length left h.1.1 (by omega)
  rw [h1, Option.bind_some]
  rcases e1 with e1 | e1
  · simp only [e1, decide_true, cond_true]
    exact ⟨_, rfl, Or.inl (by omega)⟩
  have hn1 : ¬ (q1 < 0) := by omega
  simp only [hn1, decide_false, cond_false]
  obtain ⟨q2, h2, e2⟩ := sz_len m.Enabled.length q1 h.2.1.1 (by omega)
  rw [h2, Option.bind_some]
  rcases e2 with e2 | e2
  · simp only [e2, decide_true, cond_true]
    exact ⟨_, rfl, Or.inl (by omega)⟩
  have hn2 : ¬ (q2 < 0) := by omega
  simp only [hn2, decide_false, cond_false]
  obtain ⟨q3, h3, e3⟩ := sz_len m.Raised.length q2 h.2.2.1.1 (by omega)
  rw [h3, Option.bind_some]
  rcases e3 with e3 | e3
  · simp only [e3, decide_true, cond_true]
    exact ⟨_, rfl, Or.inl (by omega)⟩
  have hn3 : ¬ (q3 < 0) := by omega
  simp only [hn3, decide_false, cond_false]
  obtain ⟨q4, h4, e4⟩ := szIfS_ex m.Cpus q3 h.2.2.2 (by omega)
  rw [h4, Option.bind_some]
  rcases e4 with e4 | e4
  · simp only [e4, decide_true, cond_true]
    exact ⟨_, rfl, Or.inl (by omega)⟩
  have hn4 : ¬ (q4 < 0) := by omega
  simp only [hn4, decide_false, cond_false]
  have hw := wIfs_le m.Cpus
  exact ⟨_, rfl, Or.inr ⟨e4.1, by omega, by omega, by omega, by omega, by omega, fun x hx => by
    have := mem_nIfs hx
    unfold nIf at this
    exact ⟨by omega, by omega, by omega⟩, by omega⟩⟩
def gR : Route := ⟨0, 0⟩
def rtOk (rs : List Route) (k q p : Int) : Bool := (rs.getD q.toNat gR).Target == k && (rs.getD q.toNat gR).Priority == p
def fitOk (rs : List Route) (k : Int) (x : Interface) : Bool := (x.Queue.Slots.all fun s => !(s.State == 3)) && ((x.Queue.Slots.all fun s => (s.State == 0) || rtOk rs k s.Irq s.Priority) && (x.Queue.Waiting.all fun w => rtOk rs k w.Irq w.Priority))
theorem goodI_irqs {x : Interface} (h : goodI x = true) : (∀ s ∈ x.Queue.Slots, 0 ≤ s.Irq ∧ s.Irq ≤ 7) ∧ ∀ w ∈ x.Queue.Waiting, 0 ≤ w.Irq ∧ w.Irq ≤ 7 := by
  unfold goodI goodQ goodP goodS at h
  simp only [Bool.and_eq_true, List.all_eq_true] at h
  constructor
  · intro s hs
    obtain ⟨i, hi, rfl⟩ := List.getElem_of_mem hs
    have := h.2.1.1.1.2 i (List.mem_range.2 hi)
    unfold okSl inR at this
    rw [getD_at hi] at this
    simp only [Bool.and_eq_true, decide_eq_true_eq] at this
    exact this.2.1
  · intro w hw
    obtain ⟨i, hi, rfl⟩ := List.getElem_of_mem hw
    have := h.2.1.1.2 i (List.mem_range.2 hi)
    unfold okW inR at this
    rw [getD_at hi] at this
    simp only [Bool.and_eq_true, decide_eq_true_eq] at this
    exact this.1
theorem gxIdx_irq {rs : List Route} (hr : rs.length = 8) {q : Int} (hq : 0 ≤ q ∧ q ≤ 7) : gxIdx rs q = some (rs.getD q.toNat gR) := by
  obtain ⟨n, rfl⟩ : ∃ n : Nat, q = n := ⟨q.toNat, by omega⟩
  rw [gxIdx_nat (by omega), Int.toNat_natCast, getD_at (by omega)]
theorem range_all {α : Type} (xs : List α) (z : α) (p : α → Bool) : (List.range xs.length).all (fun i => p (xs.getD i z)) = xs.all p := by
  rw [Bool.eq_iff_iff, List.all_eq_true, List.all_eq_true]
  constructor
  · intro h x hx
    obtain ⟨i, hi, rfl⟩ := List.getElem_of_mem hx
    have := h i (List.mem_range.2 hi)
    rwa [getD_at hi] at this
  · intro h i hi
    have hi := List.mem_range.1 hi
    rw [getD_at hi]
    exact h _ (List.getElem_mem hi)
theorem s_fit (rs : List Route) (k : Int) (x : Interface) (hr : rs.length = 8) (h : fitIf x) (hg : goodI x = true) : M.s_l21Queue rs x.Queue k = some (fitOk rs k x) := by
  obtain ⟨g1, g2⟩ := goodI_irqs hg
  have hs := h.2.1
  have hw := h.2.2
  unfold M.s_l21Queue
  rw [while_all (fun i => (i : Int)) (fun i => (fun s : Slot => !(s.State == 3) && ((s.State == 0) || rtOk rs k s.Irq s.Priority)) (x.Queue.Slots.getD i gS)) (Sum.inr false : Unit ⊕ Bool) (Sum.inl ()) x.Queue.Slots.length (by simp) (by omega)]
  · rw [range_all x.Queue.Slots gS (fun s : Slot => !(s.State == 3) && ((s.State == 0) || rtOk rs k s.Irq s.Priority)), while_all (fun i => (i : Int)) (fun i => (fun w : Waiter => rtOk rs k w.Irq w.Priority) (x.Queue.Waiting.getD i gW)) (Sum.inr false : Unit ⊕ Bool) (Sum.inl ()) x.Queue.Waiting.length (by simp) (by omega)]
    · rw [range_all x.Queue.Waiting gW (fun w : Waiter => rtOk rs k w.Irq w.Priority)]
      unfold fitOk
      have : (x.Queue.Slots.all fun s : Slot => !(s.State == 3) && ((s.State == 0) || rtOk rs k s.Irq s.Priority)) = ((x.Queue.Slots.all fun s => !(s.State == 3)) && (x.Queue.Slots.all fun s => (s.State == 0) || rtOk rs k s.Irq s.Priority)) := by
        rw [Bool.eq_iff_iff]
        simp only [Bool.and_eq_true, List.all_eq_true]
        exact ⟨fun hh => ⟨fun s hs => (hh s hs).1, fun s hs => (hh s hs).2⟩, fun hh s hs => ⟨hh.1 s hs, hh.2 s hs⟩⟩
      rw [this, ← Bool.and_assoc]
      cases ((x.Queue.Slots.all fun s => !(s.State == 3)) && (x.Queue.Slots.all fun s => (s.State == 0) || rtOk rs k s.Irq s.Priority)) with
      | false => rfl
      | true => cases (x.Queue.Waiting.all fun w : Waiter => rtOk rs k w.Irq w.Priority) <;> rfl
    · intro i hi
      have e0 : ((i : Int) < (x.Queue.Waiting.length : Int)) := by omega
      simp only [e0, decide_true, cond_true, gxIdx_nat hi, Option.bind_some, gxIdx_irq hr (g2 _ (List.getElem_mem hi)), getD_at hi, w64_succ (show i ≤ 4611686018427387904 by omega), rtOk, bne]
      cases ((rs.getD x.Queue.Waiting[i].Irq.toNat gR).Target == k) with
      | false => rfl
      | true => cases ((rs.getD x.Queue.Waiting[i].Irq.toNat gR).Priority == x.Queue.Waiting[i].Priority) <;> rfl
    · simp
  · intro i hi
    have e0 : ((i : Int) < (x.Queue.Slots.length : Int)) := by omega
    simp only [e0, decide_true, cond_true, gxIdx_nat hi, Option.bind_some, gxIdx_irq hr (g1 _ (List.getElem_mem hi)), getD_at hi, w64_succ (show i ≤ 4611686018427387904 by omega), rtOk, bne]
    cases (x.Queue.Slots[i].State == 3) with
    | true => rfl
    | false => cases (x.Queue.Slots[i].State == 0) with
      | true => rfl
      | false => cases ((rs.getD x.Queue.Slots[i].Irq.toNat gR).Target == k) with
        | false => rfl
        | true => cases ((rs.getD x.Queue.Slots[i].Irq.toNat gR).Priority == x.Queue.Slots[i].Priority) <;> rfl
  · simp
theorem i_fit (rs : List Route) (k : Int) (x : Interface) (hr : rs.length = 8) (h : fitIf x) (hg : goodI x = true) : M.i_fitsRoutes rs k x = some (fitOk rs k x) := by
  obtain ⟨g1, g2⟩ := goodI_irqs hg
  have hs := h.2.1
  have hw := h.2.2
  unfold M.i_fitsRoutes
  have hcl : M.slices_Clone_118 x.Queue.Waiting = some x.Queue.Waiting := by
    unfold M.slices_Clone_118
    rw [gxApp_ok (by simp; omega)]
    rfl
  rw [hcl, Option.bind_some]
  rw [while_upto (fun i => (x.Queue.Waiting ++ ((x.Queue.Slots.take i).filter (fun s => s.State != 0)).map (fun s => (⟨s.Irq, s.Priority⟩ : Waiter)), (i : Int))) (fun i => !((x.Queue.Slots.getD i gS).State == 3)) (Sum.inr false : List Waiter ⊕ Bool) (Sum.inl (x.Queue.Waiting ++ (x.Queue.Slots.filter (fun s => s.State != 0)).map (fun s => (⟨s.Irq, s.Priority⟩ : Waiter)))) x.Queue.Slots.length (by simp) (by omega)]
  · rw [range_all x.Queue.Slots gS (fun s => !(s.State == 3))]
    unfold fitOk
    cases (x.Queue.Slots.all fun s => !(s.State == 3)) with
    | false => rfl
    | true =>
      simp only [cond_true, Option.bind_some, Sum.elim_inl, Bool.true_and]
      unfold M.slices_ContainsFunc_120__i_fitsRoutes_1 M.slices_IndexFunc_166__i_fitsRoutes_1
      generalize hL : x.Queue.Waiting ++ (x.Queue.Slots.filter (fun s => s.State != 0)).map (fun s => (⟨s.Irq, s.Priority⟩ : Waiter)) = L
      have hLl : L.length ≤ 4194304 := by
        rw [← hL, List.length_append, List.length_map]
        have := List.length_filter_le (fun s : Slot => s.State != 0) x.Queue.Slots
        omega
      have hLi : ∀ w ∈ L, 0 ≤ w.Irq ∧ w.Irq ≤ 7 := fun w hwm => by
        rw [← hL, List.mem_append] at hwm
        rcases hwm with h1 | h1
        · exact g2 w h1
        · obtain ⟨s, hs1, rfl⟩ := List.mem_map.1 h1
          exact g1 s (List.mem_filter.1 hs1).1
      have hval : (L.all fun w => rtOk rs k w.Irq w.Priority) = ((x.Queue.Slots.all fun s => (s.State == 0) || rtOk rs k s.Irq s.Priority) && (x.Queue.Waiting.all fun w => rtOk rs k w.Irq w.Priority)) := by
        rw [← hL, List.all_append, Bool.and_comm]
        congr 1
        rw [Bool.eq_iff_iff]
        simp only [List.all_eq_true, List.mem_map, List.mem_filter, bne, Bool.not_eq_true', Bool.or_eq_true]
        constructor
        · intro hh s hs1
          cases hz : (s.State == 0) with
          | true => exact Or.inl rfl
          | false => exact Or.inr (hh _ ⟨s, ⟨hs1, hz⟩, rfl⟩)
        · rintro hh w ⟨s, ⟨hs1, hz⟩, rfl⟩
          rcases hh s hs1 with h1 | h1
          · rw [hz] at h1; cases h1
          · exact h1
      rw [← hval]
      rw [while_first (fun i => (i : Int)) (fun i => !(rtOk rs k (L.getD i gW).Irq (L.getD i gW).Priority)) (fun i => (Sum.inr (i : Int) : Unit ⊕ Int)) (Sum.inl ()) L.length (by simp) (by omega)]
      · cases hf : (List.range L.length).find? (fun i => !(rtOk rs k (L.getD i gW).Irq (L.getD i gW).Priority)) with
        | none =>
          have : (L.all fun w => rtOk rs k w.Irq w.Priority) = true := by
            rw [← range_all L gW (fun w => rtOk rs k w.Irq w.Priority), List.all_eq_true]
            intro i hi
            have := List.find?_eq_none.1 hf i hi
            simpa using this
          rw [this]
          rfl
        | some i =>
          obtain ⟨h1, h2, _⟩ := List.find?_range_eq_some.1 hf
          have : (L.all fun w => rtOk rs k w.Irq w.Priority) = false := by
            rw [← range_all L gW (fun w => rtOk rs k w.Irq w.Priority), List.all_eq_false]
            exact ⟨i, h2, by simpa using h1⟩
          have hge : ((i : Int) ≥ 0) := by omega
          rw [this]
          simp [hge]
      · intro i hi
        have e0 : ((i : Int) < (L.length : Int)) := by omega
        simp only [e0, decide_true, cond_true, gxIdx_nat hi, Option.bind_some, M.i_fitsRoutes_1, gxIdx_irq hr (hLi _ (List.getElem_mem hi)), getD_at hi, w64_succ (show i ≤ 4611686018427387904 by omega), rtOk, Bool.and_true]
        cases ((rs.getD L[i].Irq.toNat gR).Priority == L[i].Priority) with
        | false => cases ((rs.getD L[i].Irq.toNat gR).Target == k) <;> rfl
        | true => cases ((rs.getD L[i].Irq.toNat gR).Target == k) <;> rfl
      · simp
  · intro i hi _
    have e0 : ((i : Int) < (x.Queue.Slots.length : Int)) := by omega
    have htk : (x.Queue.Slots.take (i + 1)).filter (fun s => s.State != 0) = (x.Queue.Slots.take i).filter (fun s => s.State != 0) ++ (bif x.Queue.Slots[i].State != 0 then [x.Queue.Slots[i]] else []) := by
      rw [List.take_add_one, List.getElem?_eq_getElem hi, Option.toList_some, List.filter_append]
      cases hz : (x.Queue.Slots[i].State != 0) <;> simp [hz]
    have hll : ((x.Queue.Slots.take i).filter (fun s => s.State != 0)).length ≤ i := by
      have := List.length_filter_le (fun s : Slot => s.State != 0) (x.Queue.Slots.take i)
      have h2 : (x.Queue.Slots.take i).length ≤ i := by simp; omega
      omega
    simp only [e0, decide_true, cond_true, gxIdx_nat hi, Option.bind_some, getD_at hi, M.i_waiterOf, w64_succ (show i ≤ 4611686018427387904 by omega), htk]
    cases (x.Queue.Slots[i].State == 3) with
    | true => rfl
    | false => cases (x.Queue.Slots[i].State != 0) with
      | false => simp
      | true =>
        simp only [cond_false, cond_true, Bool.not_false]
        rw [gxApp_ok (by simp; omega)]
        simp
  · intro _
    simp
def goodMc (m : Machine) : Bool := okRts m.Routes (m.Cpus.length : Int) && (((m.Enabled.length : Int) == 8) && (((m.Raised.length : Int) == 8) && (List.range m.Cpus.length).all (fun k => goodI (m.Cpus.getD k ⟨0, [], ⟨[], []⟩⟩) && fitOk m.Routes (k : Int) (m.Cpus.getD k ⟨0, [], ⟨[], []⟩⟩))))
theorem okRts_len {rs : List Route} {c : Int} (h : okRts rs c = true) : rs.length = 8 := by
  unfold okRts at h
  simp only [Bool.and_eq_true, beq_iff_eq] at h
  omega
theorem s_goodMc (m : Machine) (h : fitM m) : M.s_l21Good m = some (goodMc m) := by
  obtain ⟨h1, h2, h3, h4, h5, _⟩ := h
  unfold M.s_l21Good goodMc
  rw [s_routes m.Routes _ h1, Option.bind_some]
  cases hr : okRts m.Routes (m.Cpus.length : Int) with
  | false => rfl
  | true =>
    have hr8 := okRts_len hr
    simp only [bne, Bool.not_true, cond_false, Bool.true_and]
    cases ((m.Enabled.length : Int) == 8) with
    | false => rfl
    | true => cases ((m.Raised.length : Int) == 8) with
      | false => rfl
      | true =>
        simp only [Bool.not_true, cond_false, Bool.true_and, Option.bind_some]
        rw [while_all (fun i => (i : Int)) (fun k => goodI (m.Cpus.getD k ⟨0, [], ⟨[], []⟩⟩) && fitOk m.Routes (k : Int) (m.Cpus.getD k ⟨0, [], ⟨[], []⟩⟩)) (Sum.inr false : Unit ⊕ Bool) (Sum.inl ()) m.Cpus.length (by simp) (by omega)]
        · cases (List.range m.Cpus.length).all (fun k => goodI (m.Cpus.getD k ⟨0, [], ⟨[], []⟩⟩) && fitOk m.Routes (k : Int) (m.Cpus.getD k ⟨0, [], ⟨[], []⟩⟩)) <;> simp
        · intro k hk
          have e0 : ((k : Int) < (m.Cpus.length : Int)) := by omega
          have hf := h5 _ (List.getElem_mem hk)
          have hgi := s_goodI m.Cpus[k] hf
          simp only [e0, decide_true, cond_true, gxIdx_nat hk, Option.bind_some, getD_at hk, w64_succ (show k ≤ 4611686018427387904 by omega)]
          rw [hgi, Option.bind_some]
          cases hg : goodI m.Cpus[k] with
          | false => rfl
          | true =>
            have hft := s_fit m.Routes (k : Int) m.Cpus[k] hr8 hf hg
            simp only [Bool.not_true, cond_false, Bool.true_and]
            rw [hft, Option.bind_some]
            cases fitOk m.Routes (k : Int) m.Cpus[k] <;> rfl
        · simp
theorem i_goodMc (m : Machine) (h : fitM m) : M.i_IsMachine m = some (goodMc m) := by
  obtain ⟨h1, h2, h3, h4, h5, _⟩ := h
  unfold M.i_IsMachine goodMc
  rw [i_routesZ m.Routes _ h1, Option.bind_some]
  cases hr : okRts m.Routes (m.Cpus.length : Int) with
  | false => rfl
  | true =>
    have hr8 := okRts_len hr
    simp only [bne, Bool.not_true, cond_false, Bool.true_and]
    cases ((m.Enabled.length : Int) == 8) with
    | false => rfl
    | true => cases ((m.Raised.length : Int) == 8) with
      | false => rfl
      | true =>
        simp only [Bool.not_true, cond_false, Bool.true_and, Option.bind_some]
        rw [while_all (fun i => (i : Int)) (fun k => goodI (m.Cpus.getD k ⟨0, [], ⟨[], []⟩⟩) && fitOk m.Routes (k : Int) (m.Cpus.getD k ⟨0, [], ⟨[], []⟩⟩)) (Sum.inr false : Unit ⊕ Bool) (Sum.inl ()) m.Cpus.length (by simp) (by omega)]
        · cases (List.range m.Cpus.length).all (fun k => goodI (m.Cpus.getD k ⟨0, [], ⟨[], []⟩⟩) && fitOk m.Routes (k : Int) (m.Cpus.getD k ⟨0, [], ⟨[], []⟩⟩)) <;> simp
        · intro k hk
          have e0 : ((k : Int) < (m.Cpus.length : Int)) := by omega
          have hf := h5 _ (List.getElem_mem hk)
          have hgi := i_goodI m.Cpus[k] hf
          simp only [e0, decide_true, cond_true, gxIdx_nat hk, Option.bind_some, getD_at hk, w64_succ (show k ≤ 4611686018427387904 by omega)]
          rw [hgi, Option.bind_some]
          cases hg : goodI m.Cpus[k] with
          | false => rfl
          | true =>
            have hft := i_fit m.Routes (k : Int) m.Cpus[k] hr8 hf hg
            simp only [Bool.not_true, cond_false, Bool.true_and]
            rw [hft, Option.bind_some]
            cases fitOk m.Routes (k : Int) m.Cpus[k] <;> rfl
        · simp
end Go.Proofs.YtllhajkgkghhdaaGreat
set_option linter.unusedVariables false
set_option linter.unusedSimpArgs false
set_option maxHeartbeats 4000000
namespace Go.Proofs.YtllhajkgkghhdaaGreat
open Go.Gx
def keyW (w : Waiter) : Int := 8 * w.Priority + w.Irq
def wOf (s : Slot) : Waiter := ⟨s.Irq, s.Priority⟩
def okWt (w : Waiter) : Prop := (0 ≤ w.Irq ∧ w.Irq ≤ 7) ∧ (0 ≤ w.Priority ∧ w.Priority ≤ 15)
def okSlt (s : Slot) : Prop := (0 ≤ s.State ∧ s.State ≤ 3) ∧ okWt (wOf s) ∧ (s.State = 0 → s.Irq = 0 ∧ s.Priority = 0)
def sepS (a b : Slot) : Prop := a.State = 0 ∨ b.State = 0 ∨ a.Irq ≠ b.Irq
theorem less_key {a b : Waiter} (ha : okWt a) (hb : okWt b) : lessU a.Priority a.Irq b.Priority b.Irq = decide (keyW a < keyW b) := by
  unfold okWt at ha hb
  unfold lessU keyW
  rw [Bool.eq_iff_iff]
  simp only [Bool.or_eq_true, Bool.and_eq_true, decide_eq_true_eq, beq_iff_eq]
  omega
structure GS (xs : List Slot) : Prop where
  len : xs.length = 4
  ok : ∀ s ∈ xs, okSlt s
  sep : xs.Pairwise sepS
theorem goodS_iff (xs : List Slot) : goodS xs = true ↔ GS xs := by
  unfold goodS
  rw [Bool.and_eq_true, beq_iff_eq, List.all_eq_true]
  constructor
  · rintro ⟨hl, h⟩
    have hb : ∀ i, (hi : i < xs.length) → okSlt xs[i] ∧ ∀ j, (hj : j < i) → sepS (xs[j]'(by omega)) xs[i] := fun i hi => by
      have := h i (List.mem_range.2 hi)
      unfold okSl inR freshS at this
      rw [getD_at hi] at this
      simp only [Bool.and_eq_true, decide_eq_true_eq] at this
      obtain ⟨h1, h2, h3, h4⟩ := this
      by_cases h0 : xs[i].State = 0
      · have e0 : (xs[i].State == 0) = true := by simp [h0]
        rw [e0, cond_true, Bool.and_eq_true, beq_iff_eq, beq_iff_eq] at h4
        exact ⟨⟨h1, ⟨h2, h3⟩, fun _ => h4⟩, fun j hj => Or.inr (Or.inl h0)⟩
      · have e0 : (xs[i].State == 0) = false := by simp [h0]
        rw [e0, cond_false, List.all_eq_true] at h4
        refine ⟨⟨h1, ⟨h2, h3⟩, fun h => absurd h h0⟩, fun j hj => ?_⟩
        have := h4 j (List.mem_range.2 hj)
        rw [getD_at (show j < xs.length by omega)] at this
        unfold mtS at this
        by_cases hz : (xs[j]'(by omega)).State = 0
        · exact Or.inl hz
        · refine Or.inr (Or.inr fun e => ?_)
          simp [hz, e] at this
    refine ⟨by omega, fun s hs => ?_, ?_⟩
    · obtain ⟨i, hi, rfl⟩ := List.getElem_of_mem hs
      exact (hb i hi).1
    · rw [List.pairwise_iff_getElem]
      intro i j hi hj hij
      exact (hb j hj).2 i hij
  · rintro ⟨hl, h1, h2⟩
    refine ⟨by omega, fun i hi => ?_⟩
    have hi := List.mem_range.1 hi
    obtain ⟨g1, ⟨g2, g3⟩, g4⟩ := h1 _ (List.getElem_mem hi)
    unfold okSl inR freshS
    rw [getD_at hi]
    simp only [wOf] at g2 g3
    simp only [Bool.and_eq_true, decide_eq_true_eq]
    refine ⟨g1, g2, g3, ?_⟩
    by_cases h0 : xs[i].State = 0
    · have e0 : (xs[i].State == 0) = true := by simp [h0]
      rw [e0, cond_true, Bool.and_eq_true, beq_iff_eq, beq_iff_eq]
      exact g4 h0
    · have e0 : (xs[i].State == 0) = false := by simp [h0]
      rw [e0, cond_false, List.all_eq_true]
      intro j hj
      have hj := List.mem_range.1 hj
      rw [getD_at (show j < xs.length by omega)]
      unfold mtS
      rcases List.pairwise_iff_getElem.1 h2 j i (by omega) hi hj with h | h | h
      · simp [h]
      · exact absurd h h0
      · simp [h]
structure GP (q : Queue) : Prop where
  s : GS q.Slots
  ok : ∀ w ∈ q.Waiting, okWt w
  ord : q.Waiting.Pairwise fun a b => keyW a < keyW b
  dist : (q.Waiting.map Waiter.Irq).Nodup
  apart : ∀ w ∈ q.Waiting, ∀ s ∈ q.Slots, s.State = 0 ∨ s.Irq ≠ w.Irq
theorem fndS_none {xs : List Slot} {q : Int} : fndS xs q < 0 ↔ ∀ s ∈ xs, s.State = 0 ∨ s.Irq ≠ q := by
  rw [fndS_neg]
  constructor
  · intro h s hs
    obtain ⟨i, hi, rfl⟩ := List.getElem_of_mem hs
    have := h i hi
    unfold mtS at this
    by_cases hz : xs[i].State = 0
    · exact Or.inl hz
    · refine Or.inr fun e => ?_
      simp [hz, e] at this
  · intro h i hi
    unfold mtS
    rcases h _ (List.getElem_mem hi) with h | h <;> simp [h]
theorem goodP_iff (q : Queue) : goodP q.Slots q.Waiting = true ↔ GP q := by
  unfold goodP
  rw [Bool.and_eq_true, goodS_iff, List.all_eq_true]
  constructor
  · rintro ⟨hs, h⟩
    have hb : ∀ i, (hi : i < q.Waiting.length) → okWt q.Waiting[i] ∧ fndS q.Slots q.Waiting[i].Irq < 0 ∧ (∀ j, (hj : j < i) → (q.Waiting[j]'(by omega)).Irq ≠ q.Waiting[i].Irq) ∧ (0 < i → lessU (q.Waiting[i - 1]'(by omega)).Priority (q.Waiting[i - 1]'(by omega)).Irq q.Waiting[i].Priority q.Waiting[i].Irq = true) := fun i hi => by
      have := h i (List.mem_range.2 hi)
      unfold okW inR freshW at this
      rw [getD_at hi, getD_at (show i - 1 < q.Waiting.length by omega)] at this
      simp only [Bool.and_eq_true, decide_eq_true_eq, List.all_eq_true, Bool.or_eq_true] at this
      obtain ⟨h1, h2, h3, h4, h5⟩ := this
      refine ⟨⟨h1, h2⟩, h3, fun j hj => ?_, fun h0 => ?_⟩
      · have := h4 j (List.mem_range.2 hj)
        rw [getD_at (show j < q.Waiting.length by omega)] at this
        simpa using this
      · rcases h5 with h5 | h5
        · omega
        · exact h5
    have hok : ∀ w ∈ q.Waiting, okWt w := fun w hw => by
      obtain ⟨i, hi, rfl⟩ := List.getElem_of_mem hw
      exact (hb i hi).1
    refine ⟨hs, hok, ?_, ?_, fun w hw s hsm => ?_⟩
    · rw [List.pairwise_iff_getElem]
      have key : ∀ d i, (hj : i + d + 1 < q.Waiting.length) → keyW (q.Waiting[i]'(by omega)) < keyW q.Waiting[i + d + 1] := by
        intro d
        induction d with
        | zero =>
          intro i hj
          have h4 := (hb (i + 1) hj).2.2.2 (by omega)
          have e : i + 1 - 1 = i := by omega
          simp only [e] at h4
          rw [less_key (hok _ (List.getElem_mem _)) (hok _ (List.getElem_mem _)), decide_eq_true_eq] at h4
          exact h4
        | succ d ih =>
          intro i hj
          have h3 := ih i (by omega)
          have h4 := (hb (i + (d + 1) + 1) hj).2.2.2 (by omega)
          have e : i + (d + 1) + 1 - 1 = i + d + 1 := by omega
          simp only [e] at h4
          rw [less_key (hok _ (List.getElem_mem _)) (hok _ (List.getElem_mem _)), decide_eq_true_eq] at h4
          omega
      intro i j hi hj hij
      have := key (j - i - 1) i (by omega)
      simp only [show i + (j - i - 1) + 1 = j by omega] at this
      exact this
    · rw [List.Nodup, List.pairwise_map, List.pairwise_iff_getElem]
      intro i j hi hj hij
      exact (hb j hj).2.2.1 i hij
    · obtain ⟨i, hi, rfl⟩ := List.getElem_of_mem hw
      exact fndS_none.1 (hb i hi).2.1 s hsm
  · rintro ⟨hs, hok, ho, hd, ha⟩
    refine ⟨hs, fun i hi => ?_⟩
    have hi := List.mem_range.1 hi
    obtain ⟨g1, g2⟩ := hok _ (List.getElem_mem hi)
    unfold okW inR freshW
    rw [getD_at hi, getD_at (show i - 1 < q.Waiting.length by omega)]
    simp only [Bool.and_eq_true, decide_eq_true_eq, List.all_eq_true, Bool.or_eq_true]
    refine ⟨g1, g2, fndS_none.2 (ha _ (List.getElem_mem hi)), fun j hj => ?_, ?_⟩
    · have hj := List.mem_range.1 hj
      rw [getD_at (show j < q.Waiting.length by omega)]
      rw [List.Nodup, List.pairwise_map, List.pairwise_iff_getElem] at hd
      have := hd j i (by omega) hi hj
      simpa using this
    · by_cases h0 : i = 0
      · exact Or.inl h0
      · refine Or.inr ?_
        rw [less_key (hok _ (List.getElem_mem _)) (hok _ (List.getElem_mem _)), decide_eq_true_eq]
        exact List.pairwise_iff_getElem.1 ho (i - 1) i (by omega) hi (by omega)
theorem frS_neg {xs : List Slot} : frS xs < 0 ↔ ∀ s ∈ xs, s.State ≠ 0 := by
  unfold frS
  refine Iff.trans (first_lt (n := xs.length) (p := fun i => (xs.getD i gS).State == 0)) ?_
  constructor
  · intro h s hs
    obtain ⟨i, hi, rfl⟩ := List.getElem_of_mem hs
    have := h i hi
    rw [getD_at hi] at this
    simpa using this
  · intro h i hi
    rw [getD_at hi]
    simpa using h _ (List.getElem_mem hi)
theorem frS_at {xs : List Slot} (h : ¬ frS xs < 0) : ∃ i : Nat, ∃ hi : i < xs.length, frS xs = (i : Int) ∧ xs[i].State = 0 := by
  unfold frS at h ⊢
  cases hf : (List.range xs.length).find? (fun i => (xs.getD i gS).State == 0) with
  | none => rw [hf] at h; simp at h
  | some i =>
    obtain ⟨h1, h2, _⟩ := List.find?_range_eq_some.1 hf
    have h2 := List.mem_range.1 h2
    rw [getD_at h2] at h1
    exact ⟨i, h2, rfl, by simpa using h1⟩
theorem bestF_least {xs : List Slot} (hg : ∀ s ∈ xs, okSlt s) : ∀ n, n ≤ xs.length → (bestF xs n < 0 ∧ ∀ i, (hi : i < xs.length) → i < n → xs[i].State ≠ 1) ∨ ∃ k, ∃ hk : k < xs.length, k < n ∧ bestF xs n = (k : Int) ∧ xs[k].State = 1 ∧ ∀ i, (hi : i < xs.length) → i < n → xs[i].State = 1 → keyW (wOf xs[i]) ≤ keyW (wOf xs[k])
  | 0, _ => Or.inl ⟨by simp [bestF], fun i hi h => by omega⟩
  | n + 1, hn => by
    have ih := bestF_least hg n (by omega)
    have hnl : n < xs.length := by omega
    have hb : bestF xs (n + 1) = bif xs[n].State == 1 then (bif decide (bestF xs n < 0) || lessU (xs.getD (bestF xs n).toNat gS).Priority (xs.getD (bestF xs n).toNat gS).Irq xs[n].Priority xs[n].Irq then (n : Int) else bestF xs n) else bestF xs n := by
      rw [bestF, getD_at hnl]
    rw [hb]
    by_cases h1 : xs[n].State = 1
    · have e1 : (xs[n].State == 1) = true := by simp [h1]
      rw [e1, cond_true]
      rcases ih with ⟨h2, h3⟩ | ⟨k, hk, hkn, h2, h3, h4⟩
      · have e2 : decide (bestF xs n < 0) = true := by simp [h2]
        rw [e2, Bool.true_or, cond_true]
        refine Or.inr ⟨n, hnl, by omega, rfl, h1, fun i hi hin hs => ?_⟩
        by_cases e : i = n
        · subst e; exact Int.le_refl _
        · exact absurd hs (h3 i hi (by omega))
      · have e2 : decide (bestF xs n < 0) = false := by rw [h2]; simp
        rw [e2, Bool.false_or, h2, Int.toNat_natCast, getD_at hk]
        have hl := less_key (a := wOf xs[k]) (b := wOf xs[n]) (hg _ (List.getElem_mem hk)).2.1 (hg _ (List.getElem_mem hnl)).2.1
        simp only [wOf] at hl
        rw [hl]
        by_cases hlt : keyW (wOf xs[k]) < keyW (wOf xs[n])
        · simp only [wOf] at hlt
          simp only [hlt, decide_true, cond_true]
          refine Or.inr ⟨n, hnl, by omega, rfl, h1, fun i hi hin hs => ?_⟩
          by_cases e : i = n
          · subst e; exact Int.le_refl _
          · have := h4 i hi (by omega) hs
            simp only [wOf] at this ⊢
            omega
        · have hlt' := hlt
          simp only [wOf] at hlt'
          simp only [hlt', decide_false, cond_false]
          refine Or.inr ⟨k, hk, by omega, rfl, h3, fun i hi hin hs => ?_⟩
          by_cases e : i = n
          · subst e; omega
          · exact h4 i hi (by omega) hs
    · have e1 : (xs[n].State == 1) = false := by simp [h1]
      rw [e1, cond_false]
      rcases ih with ⟨h2, h3⟩ | ⟨k, hk, hkn, h2, h3, h4⟩
      · refine Or.inl ⟨h2, fun i hi hin => ?_⟩
        by_cases e : i = n
        · subst e; exact h1
        · exact h3 i hi (by omega)
      · refine Or.inr ⟨k, hk, by omega, h2, h3, fun i hi hin hs => ?_⟩
        by_cases e : i = n
        · subst e; exact absurd hs h1
        · exact h4 i hi (by omega) hs
def calm (q : Queue) : Prop := q.Waiting = [] ∨ ((∀ s ∈ q.Slots, s.State ≠ 0) ∧ ∀ s ∈ q.Slots, s.State = 1 → ∀ w ∈ q.Waiting, keyW (wOf s) < keyW w)
theorem setQ_iff {q : Queue} (h : GP q) : setQ q = true ↔ calm q := by
  unfold setQ calm
  cases hw : q.Waiting with
  | nil => simp
  | cons w0 r =>
    have e0 : (((w0 :: r).length : Int) == 0) = false := by simp; omega
    rw [e0, cond_false]
    have hok := h.ok
    have hord := h.ord
    rw [hw] at hok hord
    rw [List.pairwise_cons] at hord
    by_cases hf : frS q.Slots < 0
    · have e1 : decide (frS q.Slots ≥ 0) = false := by simp; omega
      rw [e1, cond_false]
      have hf' := frS_neg.1 hf
      rcases bestF_least h.s.ok q.Slots.length (Nat.le_refl _) with ⟨h2, h3⟩ | ⟨k, hk, hkn, h2, h3, h4⟩
      · have e2 : decide (bestF q.Slots q.Slots.length < 0) = true := by simp [h2]
        rw [e2, cond_true]
        refine ⟨fun _ => Or.inr ⟨hf', fun s hs h1 => ?_⟩, fun _ => rfl⟩
        obtain ⟨i, hi, rfl⟩ := List.getElem_of_mem hs
        exact absurd h1 (h3 i hi hi)
      · have e2 : decide (bestF q.Slots q.Slots.length < 0) = false := by rw [h2]; simp
        rw [e2, cond_false, h2, Int.toNat_natCast, getD_at hk]
        have hl := less_key (a := wOf q.Slots[k]) (b := w0) (h.s.ok _ (List.getElem_mem hk)).2.1 (hok w0 (by simp))
        simp only [wOf] at hl
        simp only [List.getD_cons_zero]
        rw [hl]
        refine Iff.trans decide_eq_true_iff ?_
        constructor
        · intro hlt
          refine Or.inr ⟨hf', fun s hs h1 w hwm => ?_⟩
          obtain ⟨i, hi, rfl⟩ := List.getElem_of_mem hs
          have h5 := h4 i hi hi h1
          have h6 : keyW w0 ≤ keyW w := by
            rcases List.mem_cons.1 hwm with rfl | hwm
            · exact Int.le_refl _
            · have := hord.1 w hwm; omega
          simp only [wOf] at h5 ⊢
          omega
        · rintro (h5 | ⟨_, h5⟩)
          · cases h5
          · exact h5 _ (List.getElem_mem hk) h3 w0 (by simp)
    · have e1 : decide (frS q.Slots ≥ 0) = true := by simp; omega
      rw [e1, cond_true]
      constructor
      · intro h5; cases h5
      · rintro (h5 | ⟨h5, _⟩)
        · cases h5
        · exact absurd (frS_neg.2 h5) hf
def GQ (q : Queue) : Prop := GP q ∧ calm q
theorem goodQ_iff (q : Queue) : goodQ q = true ↔ GQ q := by
  unfold goodQ GQ
  rw [Bool.and_eq_true]
  constructor
  · rintro ⟨h1, h2⟩
    have h1 := (goodP_iff q).1 h1
    exact ⟨h1, (setQ_iff h1).1 h2⟩
  · rintro ⟨h1, h2⟩
    exact ⟨(goodP_iff q).2 h1, (setQ_iff h1).2 h2⟩
def isPd (s : Slot) : Bool := s.State == 1 || s.State == 3
def pendW (q : Queue) : List Waiter := q.Waiting ++ (q.Slots.filter isPd).map wOf
theorem sep_irqs : ∀ {xs : List Slot}, xs.Pairwise sepS → ∀ p : Slot → Bool, (∀ s, p s = true → s.State ≠ 0) → ((xs.filter p).map Slot.Irq).Nodup
  | [], _, _, _ => by simp
  | x :: r, h, p, hp => by
    rw [List.pairwise_cons] at h
    have ih := sep_irqs h.2 p hp
    by_cases hx : p x = true
    · rw [List.filter_cons_of_pos hx, List.map_cons, List.nodup_cons]
      refine ⟨fun hm => ?_, ih⟩
      obtain ⟨s, hs, he⟩ := List.mem_map.1 hm
      obtain ⟨hs1, hs2⟩ := List.mem_filter.1 hs
      rcases h.1 s hs1 with h1 | h1 | h1
      · exact hp x hx h1
      · exact hp s hs2 h1
      · exact h1 he.symm
    · rw [List.filter_cons_of_neg hx]
      exact ih
theorem isPd_ne {s : Slot} (h : isPd s = true) : s.State ≠ 0 := by
  unfold isPd at h
  intro e
  rw [e] at h
  simp at h
end Go.Proofs.YtllhajkgkghhdaaGreat
