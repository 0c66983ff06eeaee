/- The walks, printed by program: whenever the model gives r, the call returns r. Part 1. -/
import Derived.Test.YtllhajkgkghhdaaGreatAM
import Derived.Test.YtllhajkgkghhdaaGreatGxZ
import Derived.Test.YtllhajkgkghhdaaGreatProg
import Derived.Test.YtllhajkgkghhdaaGreatSh
set_option linter.unusedVariables false
set_option maxRecDepth 100000
set_option maxHeartbeats 4000000
namespace Go.Proofs.YtllhajkgkghhdaaGreat
open Go.Gx
theorem c_l_szRouteS (w : World) (a : List Route) (f : Option Addr) (c : Nat) (g : rdS encRoute w a f c) (b : Int) {r : Int} (hm : M.l_szRouteS a b = some r) :
  Calls Tryz.prog 51 #[.slice f a.length c, iv b] w fun e w' => e = .returned (iv r) ∧ Mem [] w w' [] := by
 unfold M.l_szRouteS at hm
 refine cE Tryz.func51 ?_
 have M0 := Mem.refl [] w
 refine G_seq (G_region (wR 1 [(0, .slice f a.length c), (1, iv b)] w (W_nil (N_then (G_seq (G_region (wR 5 [(1, iv (w64 (b - (a.length : Int))))] w (W_nil (N_then (G_seq (G_seq (G_region (wR 2 [(1, iv (w64 (b - (a.length : Int)))), (10, .bool (decide ((w64 (b - (a.length : Int))) < 0)))] w (W_nil (N_then ?_)))))))))))))))
 rcases gx_bif hm with ⟨d, hm⟩ | ⟨d, hm⟩
 ·refine gT d (G_seq (G_region (wR 1 [(4, iv (-1))] w (W_nil (N_then (G_ret (N_then_ret ?_)))))))
  obtain rfl := Option.some.inj hm
  exact N_ret [iv (-1)] (rC RVs_nil) (⟨rfl, M0.pk []⟩)
 refine gF d (G_skip (N_then (G_seq (G_region (wR 2 [(4, iv (w64 (b - (a.length : Int))))] w (W_nil (N_then (G_ret ?_))))))))
 obtain rfl := Option.some.inj hm
 exact N_ret [iv (w64 (b - (a.length : Int)))] (rC RVs_nil) (⟨rfl, M0.pk []⟩)
theorem c_l_szBoolS (w : World) (a : List Bool) (f : Option Addr) (c : Nat) (g : rdS Gx.encB w a f c) (b : Int) {r : Int} (hm : M.l_szBoolS a b = some r) :
  Calls Tryz.prog 52 #[.slice f a.length c, iv b] w fun e w' => e = .returned (iv r) ∧ Mem [] w w' [] := by
 unfold M.l_szBoolS at hm
 refine cE Tryz.func52 ?_
 have M0 := Mem.refl [] w
 refine G_seq (G_region (wR 1 [(0, .slice f a.length c), (1, iv b)] w (W_nil (N_then (G_seq (G_region (wR 5 [(1, iv (w64 (b - (a.length : Int))))] w (W_nil (N_then (G_seq (G_seq (G_region (wR 2 [(1, iv (w64 (b - (a.length : Int)))), (10, .bool (decide ((w64 (b - (a.length : Int))) < 0)))] w (W_nil (N_then ?_)))))))))))))))
 rcases gx_bif hm with ⟨d, hm⟩ | ⟨d, hm⟩
 ·refine gT d (G_seq (G_region (wR 1 [(4, iv (-1))] w (W_nil (N_then (G_ret (N_then_ret ?_)))))))
  obtain rfl := Option.some.inj hm
  exact N_ret [iv (-1)] (rC RVs_nil) (⟨rfl, M0.pk []⟩)
 refine gF d (G_skip (N_then (G_seq (G_region (wR 2 [(4, iv (w64 (b - (a.length : Int))))] w (W_nil (N_then (G_ret ?_))))))))
 obtain rfl := Option.some.inj hm
 exact N_ret [iv (w64 (b - (a.length : Int)))] (rC RVs_nil) (⟨rfl, M0.pk []⟩)
theorem c_l_szIntS (w : World) (a : List Int) (f : Option Addr) (c : Nat) (g : rdS Gx.encI w a f c) (b : Int) {r : Int} (hm : M.l_szIntS a b = some r) :
  Calls Tryz.prog 152 #[.slice f a.length c, iv b] w fun e w' => e = .returned (iv r) ∧ Mem [] w w' [] := by
 unfold M.l_szIntS at hm
 refine cE Tryz.func152 ?_
 have M0 := Mem.refl [] w
 refine G_seq (G_region (wR 1 [(0, .slice f a.length c), (1, iv b)] w (W_nil (N_then (G_seq (G_region (wR 5 [(1, iv (w64 (b - (a.length : Int))))] w (W_nil (N_then (G_seq (G_seq (G_region (wR 2 [(1, iv (w64 (b - (a.length : Int)))), (10, .bool (decide ((w64 (b - (a.length : Int))) < 0)))] w (W_nil (N_then ?_)))))))))))))))
 rcases gx_bif hm with ⟨d, hm⟩ | ⟨d, hm⟩
 ·refine gT d (G_seq (G_region (wR 1 [(4, iv (-1))] w (W_nil (N_then (G_ret (N_then_ret ?_)))))))
  obtain rfl := Option.some.inj hm
  exact N_ret [iv (-1)] (rC RVs_nil) (⟨rfl, M0.pk []⟩)
 refine gF d (G_skip (N_then (G_seq (G_region (wR 2 [(4, iv (w64 (b - (a.length : Int))))] w (W_nil (N_then (G_ret ?_))))))))
 obtain rfl := Option.some.inj hm
 exact N_ret [iv (w64 (b - (a.length : Int)))] (rC RVs_nil) (⟨rfl, M0.pk []⟩)
theorem c_l_szSlotS (w : World) (a : List Slot) (f : Option Addr) (c : Nat) (g : rdS encSlot w a f c) (b : Int) {r : Int} (hm : M.l_szSlotS a b = some r) :
  Calls Tryz.prog 187 #[.slice f a.length c, iv b] w fun e w' => e = .returned (iv r) ∧ Mem [] w w' [] := by
 unfold M.l_szSlotS at hm
 refine cE Tryz.func187 ?_
 have M0 := Mem.refl [] w
 refine G_seq (G_region (wR 1 [(0, .slice f a.length c), (1, iv b)] w (W_nil (N_then (G_seq (G_region (wR 5 [(1, iv (w64 (b - (a.length : Int))))] w (W_nil (N_then (G_seq (G_seq (G_region (wR 2 [(1, iv (w64 (b - (a.length : Int)))), (10, .bool (decide ((w64 (b - (a.length : Int))) < 0)))] w (W_nil (N_then ?_)))))))))))))))
 rcases gx_bif hm with ⟨d, hm⟩ | ⟨d, hm⟩
 ·refine gT d (G_seq (G_region (wR 1 [(4, iv (-1))] w (W_nil (N_then (G_ret (N_then_ret ?_)))))))
  obtain rfl := Option.some.inj hm
  exact N_ret [iv (-1)] (rC RVs_nil) (⟨rfl, M0.pk []⟩)
 refine gF d (G_skip (N_then (G_seq (G_region (wR 2 [(4, iv (w64 (b - (a.length : Int))))] w (W_nil (N_then (G_ret ?_))))))))
 obtain rfl := Option.some.inj hm
 exact N_ret [iv (w64 (b - (a.length : Int)))] (rC RVs_nil) (⟨rfl, M0.pk []⟩)
theorem c_l_szWaiterS (w : World) (a : List Waiter) (f : Option Addr) (c : Nat) (g : rdS encWaiter w a f c) (b : Int) {r : Int} (hm : M.l_szWaiterS a b = some r) :
  Calls Tryz.prog 188 #[.slice f a.length c, iv b] w fun e w' => e = .returned (iv r) ∧ Mem [] w w' [] := by
 unfold M.l_szWaiterS at hm
 refine cE Tryz.func188 ?_
 have M0 := Mem.refl [] w
 refine G_seq (G_region (wR 1 [(0, .slice f a.length c), (1, iv b)] w (W_nil (N_then (G_seq (G_region (wR 5 [(1, iv (w64 (b - (a.length : Int))))] w (W_nil (N_then (G_seq (G_seq (G_region (wR 2 [(1, iv (w64 (b - (a.length : Int)))), (10, .bool (decide ((w64 (b - (a.length : Int))) < 0)))] w (W_nil (N_then ?_)))))))))))))))
 rcases gx_bif hm with ⟨d, hm⟩ | ⟨d, hm⟩
 ·refine gT d (G_seq (G_region (wR 1 [(4, iv (-1))] w (W_nil (N_then (G_ret (N_then_ret ?_)))))))
  obtain rfl := Option.some.inj hm
  exact N_ret [iv (-1)] (rC RVs_nil) (⟨rfl, M0.pk []⟩)
 refine gF d (G_skip (N_then (G_seq (G_region (wR 2 [(4, iv (w64 (b - (a.length : Int))))] w (W_nil (N_then (G_ret ?_))))))))
 obtain rfl := Option.some.inj hm
 exact N_ret [iv (w64 (b - (a.length : Int)))] (rC RVs_nil) (⟨rfl, M0.pk []⟩)
theorem c_l_szQueue (w : World) (a : Queue) (h : Option Addr) (f : Nat) (y : rdS encSlot w a.Slots h f) (i : Option Addr) (g : Nat) (z : rdS encWaiter w a.Waiting i g) (c : Int) {r : Int} (hm : M.l_szQueue a c = some r) :
  Calls Tryz.prog 153 #[.agg #[.slice h a.Slots.length f, .slice i a.Waiting.length g], iv c] w fun e w' => e = .returned (iv r) ∧ Mem [] w w' [] := by
 unfold M.l_szQueue at hm
 refine cE Tryz.func153 ?_
 have M0 := Mem.refl [] w
 refine G_seq (G_region (wN (.cells ⟨[.slice h a.Slots.length f, .slice i a.Waiting.length g]⟩ 124 (0, 0)) M0 ?_))
 intro d l o
 refine wR 1 [(1, iv c), (2, pB d 0)] l (W_nil (N_then (G_seq (G_region (wR 1 [(1, iv c), (2, pB d 0), (5, pB d 0)] l (wV (.slice h a.Slots.length f) l (eL false 1 0 (o.blk 0 rfl)) (wR 1 [(1, iv c), (2, pB d 0), (6, .slice h a.Slots.length f), (7, iv c)] l ?_)))))))
 obtain ⟨b, A, hm⟩ := gx_bind hm
 refine wC 187 #[.slice h a.Slots.length f, iv c] ((c_l_szSlotS l a.Slots h f (y.mem0 o) c A).mono ?_)
 rintro e_ j ⟨rfl, v⟩
 have m := o.call0 v
 refine ⟨_, rfl, ?_⟩
 refine wR 1 [(1, iv b), (2, pB d 0)] j (W_nil (N_then (G_seq (G_seq (G_region (wR 2 [(1, iv b), (2, pB d 0), (10, .bool (decide (b < 0)))] j (W_nil (N_then ?_))))))))
 rcases gx_bif hm with ⟨q, hm⟩ | ⟨q, hm⟩
 ·refine gT q (G_seq (G_region (wR 1 [(4, iv (-1))] j (W_nil (N_then (G_ret (N_then_ret ?_)))))))
  obtain rfl := Option.some.inj hm
  exact N_ret [iv (-1)] (rC RVs_nil) (⟨rfl, m.pk []⟩)
 refine gF q (G_skip (N_then (G_seq (G_region (wR 1 [(1, iv b), (11, pB d 1)] j (wV (.slice i a.Waiting.length g) j (eL false 1 1 (m.blk 0 rfl)) (wR 1 [(1, iv b), (12, .slice i a.Waiting.length g), (13, iv b)] j ?_)))))))
 obtain ⟨k, B, hm⟩ := gx_bind hm
 refine wC 188 #[.slice i a.Waiting.length g, iv b] ((c_l_szWaiterS j a.Waiting i g (z.mem0 m) b B).mono ?_)
 rintro e_ n ⟨rfl, x⟩
 have u := m.call0 x
 refine ⟨_, rfl, ?_⟩
 refine wR 1 [(1, iv k)] n (W_nil (N_then (G_seq (G_seq (G_region (wR 2 [(1, iv k), (16, .bool (decide (k < 0)))] n (W_nil (N_then ?_))))))))
 rcases gx_bif hm with ⟨t, hm⟩ | ⟨t, hm⟩
 ·refine gT t (G_seq (G_region (wR 1 [(4, iv (-1))] n (W_nil (N_then (G_ret (N_then_ret ?_)))))))
  obtain rfl := Option.some.inj hm
  exact N_ret [iv (-1)] (rC RVs_nil) (⟨rfl, u.pk []⟩)
 refine gF t (G_skip (N_then (G_seq (G_region (wR 2 [(4, iv k)] n (W_nil (N_then (G_ret ?_))))))))
 obtain rfl := Option.some.inj hm
 exact N_ret [iv k] (rC RVs_nil) (⟨rfl, u.pk []⟩)
theorem c_l_szInterface (w : World) (a : Interface) (j : Option Addr) (g : Nat) (B : rdS Gx.encI w a.Stack j g) (k : Option Addr) (h : Nat) (C : rdS encSlot w a.Queue.Slots k h) (i : Option Addr) (f : Nat) (A : rdS encWaiter w a.Queue.Waiting i f) (c : Int) {r : Int} (hm : M.l_szInterface a c = some r) :
  Calls Tryz.prog 103 #[.agg #[iv a.Mask, .slice j a.Stack.length g, .slice k a.Queue.Slots.length h, .slice i a.Queue.Waiting.length f], iv c] w fun e w' => e = .returned (iv r) ∧ Mem [] w w' [] := by
 unfold M.l_szInterface at hm
 refine cE Tryz.func103 ?_
 have M0 := Mem.refl [] w
 refine G_seq (G_region (wN (.cells ⟨[iv a.Mask, .slice j a.Stack.length g, .slice k a.Queue.Slots.length h, .slice i a.Queue.Waiting.length f]⟩ 126 (0, 0)) M0 ?_))
 intro d o t
 refine wR 1 [(1, iv c), (2, pB d 0)] o (W_nil (N_then (G_seq (G_region (wR 1 [(1, iv c), (2, pB d 0), (5, pB d 1)] o (wV (.slice j a.Stack.length g) o (eL false 1 1 (t.blk 0 rfl)) (wR 1 [(1, iv c), (2, pB d 0), (6, .slice j a.Stack.length g), (7, iv c)] o ?_)))))))
 obtain ⟨b, D, hm⟩ := gx_bind hm
 refine wC 152 #[.slice j a.Stack.length g, iv c] ((c_l_szIntS o a.Stack j g (B.mem0 t) c D).mono ?_)
 rintro e_ l ⟨rfl, y⟩
 have m := t.call0 y
 refine ⟨_, rfl, ?_⟩
 refine wR 1 [(1, iv b), (2, pB d 0)] l (W_nil (N_then (G_seq (G_seq (G_region (wR 2 [(1, iv b), (2, pB d 0), (10, .bool (decide (b < 0)))] l (W_nil (N_then ?_))))))))
 rcases gx_bif hm with ⟨u, hm⟩ | ⟨u, hm⟩
 ·refine gT u (G_seq (G_region (wR 1 [(4, iv (-1))] l (W_nil (N_then (G_ret (N_then_ret ?_)))))))
  obtain rfl := Option.some.inj hm
  exact N_ret [iv (-1)] (rC RVs_nil) (⟨rfl, m.pk []⟩)
 refine gF u (G_skip (N_then (G_seq (G_region (wR 1 [(1, iv b), (11, pB d 2)] l (wV (.agg #[.slice k a.Queue.Slots.length h, .slice i a.Queue.Waiting.length f]) l (eL true 2 2 (m.blk 0 rfl)) (wR 1 [(1, iv b), (12, .agg #[.slice k a.Queue.Slots.length h, .slice i a.Queue.Waiting.length f]), (13, iv b)] l ?_)))))))
 obtain ⟨n, E, hm⟩ := gx_bind hm
 refine wC 153 #[.agg #[.slice k a.Queue.Slots.length h, .slice i a.Queue.Waiting.length f], iv b] ((c_l_szQueue l (⟨a.Queue.Slots, a.Queue.Waiting⟩ : Queue) k h (C.mem0 m) i f (A.mem0 m) b E).mono ?_)
 rintro e_ q ⟨rfl, z⟩
 have x := m.call0 z
 refine ⟨_, rfl, ?_⟩
 refine wR 1 [(1, iv n)] q (W_nil (N_then (G_seq (G_seq (G_region (wR 2 [(1, iv n), (16, .bool (decide (n < 0)))] q (W_nil (N_then ?_))))))))
 rcases gx_bif hm with ⟨v, hm⟩ | ⟨v, hm⟩
 ·refine gT v (G_seq (G_region (wR 1 [(4, iv (-1))] q (W_nil (N_then (G_ret (N_then_ret ?_)))))))
  obtain rfl := Option.some.inj hm
  exact N_ret [iv (-1)] (rC RVs_nil) (⟨rfl, x.pk []⟩)
 refine gF v (G_skip (N_then (G_seq (G_region (wR 2 [(4, iv n)] q (W_nil (N_then (G_ret ?_))))))))
 obtain rfl := Option.some.inj hm
 exact N_ret [iv n] (rC RVs_nil) (⟨rfl, x.pk []⟩)
theorem c_l_szInterfaceS (w : World) (c : List Interface) (g : Option Addr) (h : Nat) (E : rdD deepInterface w c g h) (j : Int) {r : Int} (hm : M.l_szInterfaceS c j = some r) :
  Calls Tryz.prog 53 #[.slice g c.length h, iv j] w fun e w' => e = .returned (iv r) ∧ Mem [] w w' [] := by
 unfold M.l_szInterfaceS at hm
 refine cE Tryz.func53 ?_
 have M0 := Mem.refl [] w
 refine G_seq (G_region (wR 1 [(0, .slice g c.length h), (1, iv j)] w (W_nil (N_then (G_seq (G_region (wR 5 [(0, .slice g c.length h), (1, iv (w64 (j - (c.length : Int))))] w (W_nil (N_then (G_seq (G_seq (G_region (wR 2 [(0, .slice g c.length h), (1, iv (w64 (j - (c.length : Int)))), (11, .bool (decide ((w64 (j - (c.length : Int))) < 0)))] w (W_nil (N_then ?_)))))))))))))))
 rcases gx_bif hm with ⟨u, hm⟩ | ⟨u, hm⟩
 ·refine gT u (G_seq (G_region (wR 1 [(4, iv (-1))] w (W_nil (N_then (G_ret (N_then_ret ?_)))))))
  obtain rfl := Option.some.inj hm
  exact N_ret [iv (-1)] (rC RVs_nil) (⟨rfl, M0.pk []⟩)
 refine gF u (G_skip (N_then (G_seq (G_seq (G_region (wR 1 [(0, .slice g c.length h), (1, iv (w64 (j - (c.length : Int)))), (5, iv 0)] w (W_nil (N_then ?_))))))))
 obtain ⟨K, I, y⟩ := gx_bind hm
 refine G_meet (fun a w' => ∃ (m : Int), K = .inl m ∧ Mem [] w w' [] ∧ Sat Tryz.f53.ntmps [(1, iv m)] a) ?_ ?_
 ·refine G_block (G_while (σ := Int × Int) (ρ := (Int) ⊕ (Int)) (fun d a w' => Mem [] w w' [] ∧ Sat Tryz.f53.ntmps [(0, .slice g c.length h), (1, iv d.1), (5, iv d.2)] a) I (fun a ha => ⟨M0.pk [], ha.s⟩) ?_)
  clear hm
  intro d P hm z N k ⟨i, F⟩
  refine G_use F (G_seq (G_seq (G_region (wR 4 [(0, .slice g c.length h), (1, iv d.1), (5, iv d.2), (15, .bool (decide (d.2 < (c.length : Int))))] k (W_nil (N_then ?_))))))
  rcases gx_bif hm with ⟨q, hm⟩ | ⟨q, hm⟩
  ·refine gT q (G_skip (N_then (G_seq (G_block (G_seq (G_region (wR 2 [(0, .slice g c.length h), (1, iv d.1), (5, iv d.2), (18, .slice g c.length h), (19, iv d.2)] k ?_)))))))
   obtain ⟨f, J, hm⟩ := gx_bind hm
   obtain ⟨Q, B, A, v⟩ := id E
   obtain ⟨b, l⟩ := gxIdx_fst B J
   refine wV (elemP g (d.2.toNat * 4)) k (eI (A.mem0 i) (len_fst B) l) (wV (.agg #[iv f.Mask, .slice ((b 0).1) f.Stack.length ((b 0).2), .slice ((b 1).1) f.Queue.Slots.length ((b 1).2), .slice ((b 2).1) f.Queue.Waiting.length ((b 2).2)]) k (eE true 4 0 (d.2.toNat * 4) (A.mem0 i) l) (wR 1 [(0, .slice g c.length h), (1, iv d.1), (5, iv d.2), (21, .agg #[iv f.Mask, .slice ((b 0).1) f.Stack.length ((b 0).2), .slice ((b 1).1) f.Queue.Slots.length ((b 1).2), .slice ((b 2).1) f.Queue.Waiting.length ((b 2).2)]), (22, iv d.1)] k ?_))
   obtain ⟨n, H, hm⟩ := gx_bind hm
   refine wC 103 #[.agg #[iv f.Mask, .slice ((b 0).1) f.Stack.length ((b 0).2), .slice ((b 1).1) f.Queue.Slots.length ((b 1).2), .slice ((b 2).1) f.Queue.Waiting.length ((b 2).2)], iv d.1] ((c_l_szInterface k (⟨f.Mask, f.Stack, (⟨f.Queue.Slots, f.Queue.Waiting⟩ : Queue)⟩ : Interface) ((b 0).1) ((b 0).2) ((v.mem0 i).at_ l 0 ⟨Int, Gx.encI, f.Stack, (b 0).1, (b 0).2⟩ (by kernel_rfl)) ((b 1).1) ((b 1).2) ((v.mem0 i).at_ l 1 ⟨Slot, encSlot, f.Queue.Slots, (b 1).1, (b 1).2⟩ (by kernel_rfl)) ((b 2).1) ((b 2).2) ((v.mem0 i).at_ l 2 ⟨Waiter, encWaiter, f.Queue.Waiting, (b 2).1, (b 2).2⟩ (by kernel_rfl)) d.1 H).mono ?_)
   rintro e_ o ⟨rfl, C⟩
   have x := i.call0 C
   refine ⟨_, rfl, ?_⟩
   refine wR 1 [(0, .slice g c.length h), (1, iv n), (5, iv d.2)] o (W_nil (N_then (G_seq (G_region (wR 2 [(0, .slice g c.length h), (1, iv n), (5, iv d.2), (25, .bool (decide (n < 0)))] o (W_nil (N_then ?_)))))))
   rcases gx_bif hm with ⟨t, hm⟩ | ⟨t, hm⟩
   ·refine gT t (G_seq (G_region (wR 1 [(4, iv (-1))] o (W_nil (N_then (G_ret (N_block_ret (N_then_ret (N_then_ret ?_)))))))))
    obtain rfl := Option.some.inj hm
    obtain rfl := z _ rfl
    have hm := y; simp only [Sum.elim_inr] at hm
    refine N_block_ret (N_meet_ret (N_then_ret ?_))
    obtain rfl := Option.some.inj hm
    exact N_ret [iv (-1)] (rC RVs_nil) (⟨rfl, x.pk []⟩)
   refine gF t (G_skip (N_block (N_then (G_region (wR 3 [(0, .slice g c.length h), (1, iv n), (5, iv (w64 (d.2 + 1)))] o (W_nil ?_))))))
   obtain rfl := Option.some.inj hm
   exact N_loop fun a ha => ⟨_, rfl, x.pk [], ha.s⟩
  refine gF q (G_exit (N_then_exit (N_then_exit (N_block_eq ?_))))
  obtain rfl := Option.some.inj hm
  obtain rfl := z _ rfl
  exact N_meet fun a ha => ⟨_, rfl, i.pk [], ha.s⟩
 intro O L ⟨m, hout_, D, G⟩
 refine N_use G ?_
 subst hout_
 have hm := y; simp only [Sum.elim_inl] at hm
 refine N_then (G_seq (G_region (wR 2 [(4, iv m)] L (W_nil (N_then (G_ret ?_))))))
 obtain rfl := Option.some.inj hm
 exact N_ret [iv m] (rC RVs_nil) (⟨rfl, D.pk []⟩)
theorem c_l_szMachine (w : World) (a : Machine) (l : Option Addr) (h : Nat) (L : rdS encRoute w a.Routes l h) (m : Option Addr) (i : Nat) (N : rdS Gx.encB w a.Enabled m i) (n : Option Addr) (j : Nat) (O : rdS Gx.encB w a.Raised n j) (o : Option Addr) (k : Nat) (P : rdD deepInterface w a.Cpus o k) (g : Int) {r : Int} (hm : M.l_szMachine a g = some r) :
  Calls Tryz.prog 12 #[.agg #[.slice l a.Routes.length h, .slice m a.Enabled.length i, .slice n a.Raised.length j, .slice o a.Cpus.length k], iv g] w fun e w' => e = .returned (iv r) ∧ Mem [] w w' [] := by
 unfold M.l_szMachine at hm
 refine cE Tryz.func12 ?_
 have M0 := Mem.refl [] w
 refine G_seq (G_region (wN (.cells ⟨[.slice l a.Routes.length h, .slice m a.Enabled.length i, .slice n a.Raised.length j, .slice o a.Cpus.length k]⟩ 26 (0, 0)) M0 ?_))
 intro b v B
 refine wR 1 [(1, iv g), (2, pB b 0)] v (W_nil (N_then (G_seq (G_region (wR 1 [(1, iv g), (2, pB b 0), (5, pB b 0)] v (wV (.slice l a.Routes.length h) v (eL false 1 0 (B.blk 0 rfl)) (wR 1 [(1, iv g), (2, pB b 0), (6, .slice l a.Routes.length h), (7, iv g)] v ?_)))))))
 obtain ⟨c, R, hm⟩ := gx_bind hm
 refine wC 51 #[.slice l a.Routes.length h, iv g] ((c_l_szRouteS v a.Routes l h (L.mem0 B) g R).mono ?_)
 rintro e_ q ⟨rfl, I⟩
 have x := B.call0 I
 refine ⟨_, rfl, ?_⟩
 refine wR 1 [(1, iv c), (2, pB b 0)] q (W_nil (N_then (G_seq (G_seq (G_region (wR 2 [(1, iv c), (2, pB b 0), (10, .bool (decide (c < 0)))] q (W_nil (N_then ?_))))))))
 rcases gx_bif hm with ⟨D, hm⟩ | ⟨D, hm⟩
 ·refine gT D (G_seq (G_region (wR 1 [(4, iv (-1))] q (W_nil (N_then (G_ret (N_then_ret ?_)))))))
  obtain rfl := Option.some.inj hm
  exact N_ret [iv (-1)] (rC RVs_nil) (⟨rfl, x.pk []⟩)
 refine gF D (G_skip (N_then (G_seq (G_region (wR 1 [(1, iv c), (2, pB b 0), (11, pB b 1)] q (wV (.slice m a.Enabled.length i) q (eL false 1 1 (x.blk 0 rfl)) (wR 1 [(1, iv c), (2, pB b 0), (12, .slice m a.Enabled.length i), (13, iv c)] q ?_)))))))
 obtain ⟨d, S, hm⟩ := gx_bind hm
 refine wC 52 #[.slice m a.Enabled.length i, iv c] ((c_l_szBoolS q a.Enabled m i (N.mem0 x) c S).mono ?_)
 rintro e_ w64 ⟨rfl, J⟩
 have y := x.call0 J
 refine ⟨_, rfl, ?_⟩
 refine wR 1 [(1, iv d), (2, pB b 0)] w64 (W_nil (N_then (G_seq (G_seq (G_region (wR 2 [(1, iv d), (2, pB b 0), (16, .bool (decide (d < 0)))] w64 (W_nil (N_then ?_))))))))
 rcases gx_bif hm with ⟨E, hm⟩ | ⟨E, hm⟩
 ·refine gT E (G_seq (G_region (wR 1 [(4, iv (-1))] w64 (W_nil (N_then (G_ret (N_then_ret ?_)))))))
  obtain rfl := Option.some.inj hm
  exact N_ret [iv (-1)] (rC RVs_nil) (⟨rfl, y.pk []⟩)
 refine gF E (G_skip (N_then (G_seq (G_region (wR 1 [(1, iv d), (2, pB b 0), (17, pB b 2)] w64 (wV (.slice n a.Raised.length j) w64 (eL false 1 2 (y.blk 0 rfl)) (wR 1 [(1, iv d), (2, pB b 0), (18, .slice n a.Raised.length j), (19, iv d)] w64 ?_)))))))
 obtain ⟨f, T, hm⟩ := gx_bind hm
 refine wC 52 #[.slice n a.Raised.length j, iv d] ((c_l_szBoolS w64 a.Raised n j (O.mem0 y) d T).mono ?_)
 rintro e_ t ⟨rfl, K⟩
 have z := y.call0 K
 refine ⟨_, rfl, ?_⟩
 refine wR 1 [(1, iv f), (2, pB b 0)] t (W_nil (N_then (G_seq (G_seq (G_region (wR 2 [(1, iv f), (2, pB b 0), (22, .bool (decide (f < 0)))] t (W_nil (N_then ?_))))))))
 rcases gx_bif hm with ⟨F, hm⟩ | ⟨F, hm⟩
 ·refine gT F (G_seq (G_region (wR 1 [(4, iv (-1))] t (W_nil (N_then (G_ret (N_then_ret ?_)))))))
  obtain rfl := Option.some.inj hm
  exact N_ret [iv (-1)] (rC RVs_nil) (⟨rfl, z.pk []⟩)
 refine gF F (G_skip (N_then (G_seq (G_region (wR 1 [(1, iv f), (23, pB b 3)] t (wV (.slice o a.Cpus.length k) t (eL false 1 3 (z.blk 0 rfl)) (wR 1 [(1, iv f), (24, .slice o a.Cpus.length k), (25, iv f)] t ?_)))))))
 obtain ⟨u, Q, hm⟩ := gx_bind hm
 refine wC 53 #[.slice o a.Cpus.length k, iv f] ((c_l_szInterfaceS t a.Cpus o k (P.mem0 z) f Q).mono ?_)
 rintro e_ A ⟨rfl, H⟩
 have G := z.call0 H
 refine ⟨_, rfl, ?_⟩
 refine wR 1 [(1, iv u)] A (W_nil (N_then (G_seq (G_seq (G_region (wR 2 [(1, iv u), (28, .bool (decide (u < 0)))] A (W_nil (N_then ?_))))))))
 rcases gx_bif hm with ⟨C, hm⟩ | ⟨C, hm⟩
 ·refine gT C (G_seq (G_region (wR 1 [(4, iv (-1))] A (W_nil (N_then (G_ret (N_then_ret ?_)))))))
  obtain rfl := Option.some.inj hm
  exact N_ret [iv (-1)] (rC RVs_nil) (⟨rfl, G.pk []⟩)
 refine gF C (G_skip (N_then (G_seq (G_region (wR 2 [(4, iv u)] A (W_nil (N_then (G_ret ?_))))))))
 obtain rfl := Option.some.inj hm
 exact N_ret [iv u] (rC RVs_nil) (⟨rfl, G.pk []⟩)
theorem c_l_toRoute (w : World) (a : Route) {r : Route} (hm : M.l_toRoute a = some r) :
  Calls Tryz.prog 106 #[.agg #[iv a.Priority, iv a.Target]] w fun e w' => e = .returned (.agg #[iv r.Priority, iv r.Target]) ∧ Mem [] w w' [] := by
 unfold M.l_toRoute at hm
 refine cE Tryz.func106 ?_
 have M0 := Mem.refl [] w
 refine G_seq (G_region (wN (.cells ⟨[iv a.Priority, iv a.Target]⟩ 131 (0, 0)) M0 ?_))
 intro f x q
 refine wN (.cells ⟨[iv 0, iv 0]⟩ 129 (0, 0)) q ?_
 intro c y t
 refine W_nil (N_then (G_seq (G_region (wN (.cells ⟨[iv 0, iv 0]⟩ 129 (0, 0)) t ?_))))
 intro d h j
 refine W_nil (N_then (G_seq (G_region (wR 1 [(1, pB f 0), (2, pB c 0), (3, pB d 0), (4, pB f 0)] h (wV (iv a.Priority) h (eL false 1 0 (j.blk 0 rfl)) (wR 1 [(1, pB f 0), (2, pB c 0), (3, pB d 0), (5, iv a.Priority), (6, pB d 0)] h (wS false 1 0 (iv a.Priority) 2 [iv a.Priority, iv 0] j rfl ?_)))))))
 intro i l
 refine W_nil (N_then (G_seq (G_region (wR 1 [(2, pB c 0), (3, pB d 0), (7, pB f 1)] i (wV (iv a.Target) i (eL false 1 1 (l.blk 0 rfl)) (wR 1 [(2, pB c 0), (3, pB d 0), (8, iv a.Target), (9, pB d 1)] i (wS false 1 1 (iv a.Target) 2 [iv a.Priority, iv a.Target] l rfl ?_)))))))
 intro u m
 refine W_nil (N_then (G_seq (G_region (wV (.agg #[iv a.Priority, iv a.Target]) u (eL true 2 0 (m.blk 2 rfl)) (wS true 2 0 (.agg #[iv a.Priority, iv a.Target]) 1 [iv a.Priority, iv a.Target] m rfl ?_)))))
 intro z n
 refine W_nil (N_then (G_ret ?_))
 obtain rfl := Option.some.inj hm
 exact N_ret [.agg #[iv a.Priority, iv a.Target]] (RVs_cons (RV_cell (g := true) (k := 2) (b := c) (off := 0) (cs := [iv a.Priority, iv a.Target]) (e := 129) (fr := (0, 0)) (v := .agg #[iv a.Priority, iv a.Target]) (n.blk 1 (b := c) (o := .cells ⟨[iv a.Priority, iv a.Target]⟩ 129 (0, 0)) (by kernel_rfl)) (by kernel_rfl) (by kernel_rfl) (by kernel_rfl)) RVs_nil) (⟨rfl, n.pk []⟩)
theorem c_l_toRouteS (w : World) (f : List Route) (g : Option Addr) (h : Nat) (x : rdS encRoute w f g h) {r : (List Route)} (hm : M.l_toRouteS f = some r) :
  Calls Tryz.prog 55 #[.slice g f.length h] w fun e w' => ∃ (B : Option Addr) (v : Nat) (C : Seg), e = .returned (.slice B r.length v) ∧ ownS encRoute r B v C ∧ Mem [] w w' [C] := by
 unfold M.l_toRouteS at hm
 refine cE Tryz.func55 ?_
 have M0 := Mem.refl [] w
 refine G_seq (G_region (wR 1 [(0, .slice g f.length h)] w (W_nil (N_then (G_seq (G_region (wR 2 [(0, .slice g f.length h), (6, iv (f.length : Int))] w ?_)))))))
 obtain ⟨A, L, hm⟩ := gx_bind hm
 refine W_make (E := encRoute) _ _ _ (f.length : Int) 16 [iv 0, iv 0] ((⟨0, 0⟩ : Route) : Route) M0 (by kernel_rfl) rfl (by kernel_rfl) (by kernel_rfl) (by kernel_rfl) (by kernel_rfl) (by kernel_rfl) L ?_
 intro c d U D O G
 refine wR 1 [(0, .slice g f.length h), (3, .slice c A.length d)] D (W_nil (N_then (G_seq (G_seq (G_region (wR 1 [(0, .slice g f.length h), (3, .slice c A.length d), (4, iv 0)] D (W_nil (N_then ?_))))))))
 obtain ⟨m, T, N⟩ := gx_bind hm
 refine G_meet (fun a w' => ∃ (o : Seg), ownS encRoute m c d o ∧ Mem [] w w' [o] ∧ Sat Tryz.f55.ntmps [(3, .slice c m.length d)] a) ?_ ?_
 ·refine G_block (G_while (σ := Int × List Route) (ρ := List Route) (fun b a w' => ∃ (n : Seg), ownS encRoute b.2 c d n ∧ Mem [] w w' [n] ∧ Sat Tryz.f55.ntmps [(0, .slice g f.length h), (3, .slice c b.2.length d), (4, iv b.1)] a) T (fun a ha => ⟨U, O, G.pk [0], ha.s⟩) ?_)
  clear hm
  intro b ac hm R aa j ⟨n, t, l, J⟩
  refine G_use J (G_seq (G_seq (G_region (wR 4 [(0, .slice g f.length h), (3, .slice c b.2.length d), (4, iv b.1), (11, .bool (decide (b.1 < (f.length : Int))))] j (W_nil (N_then ?_))))))
  rcases gx_bif hm with ⟨q, hm⟩ | ⟨q, hm⟩
  ·refine gT q (G_skip (N_then (G_seq (G_block (G_region (wR 4 [(0, .slice g f.length h), (3, .slice c b.2.length d), (4, iv b.1), (14, .slice c b.2.length d), (15, iv b.1), (16, .slice g f.length h), (17, iv b.1)] j ?_))))))
   obtain ⟨k, y, hm⟩ := gx_bind hm
   refine wV (elemP g (b.1.toNat * 2)) j (eI (x.mem0 l) rfl y) (wV (.agg #[iv k.Priority, iv k.Target]) j (eE true 2 0 (b.1.toNat * 2) (x.mem0 l) y) ?_)
   obtain ⟨i, S, hm⟩ := gx_bind hm
   refine wC 106 #[.agg #[iv k.Priority, iv k.Target]] ((c_l_toRoute j k S).mono ?_)
   rintro e_ W ⟨rfl, F⟩
   have u := l.call0 F
   refine ⟨_, rfl, ?_⟩
   obtain ⟨Z, z, hm⟩ := gx_bind hm
   refine wV (elemP c (b.1.toNat * 2)) W (eI (t.rd u 0 (by kernel_rfl)) rfl z) (wE true 2 b.1.toNat 0 (b.1.toNat * 2) Z i (.agg #[iv i.Priority, iv i.Target]) 0 u t (gxIdx_spec z).2 ?_)
   intro X V Q H
   refine wX 3 (.slice c b.2.length d) (.slice c (b.2.set b.1.toNat i).length d) (by rw [@List.length_set _ b.2 b.1.toNat i]) (wX 14 (.slice c b.2.length d) (.slice c (b.2.set b.1.toNat i).length d) (by rw [@List.length_set _ b.2 b.1.toNat i]) (W_nil (N_block (N_then (G_region (wR 3 [(0, .slice g f.length h), (3, .slice c (b.2.set b.1.toNat i).length d), (4, iv (w64 (b.1 + 1)))] X (W_nil ?_)))))))
   obtain rfl := Option.some.inj hm
   exact N_loop fun a ha => ⟨_, rfl, V, Q, H.pk [0], ha.s⟩
  refine gF q (G_exit (N_then_exit (N_then_exit (N_block_eq ?_))))
  obtain rfl := Option.some.inj hm
  obtain rfl := R _ rfl
  exact N_meet fun a ha => ⟨n, t, l.pk [0], ha.s⟩
 intro ab Y ⟨o, P, I, K⟩
 refine N_use K ?_
 have hm := N
 refine N_then (G_seq (G_region (wR 2 [(2, .slice c m.length d)] Y (W_nil (N_then (G_ret ?_))))))
 obtain rfl := Option.some.inj hm
 exact N_ret [.slice c m.length d] (rC RVs_nil) (⟨c, d, o, rfl, P, I.pk [0]⟩)
theorem c_l_toBoolS (w : World) (f : List Bool) (g : Option Addr) (h : Nat) (u : rdS Gx.encB w f g h) {r : (List Bool)} (hm : M.l_toBoolS f = some r) :
  Calls Tryz.prog 56 #[.slice g f.length h] w fun e w' => ∃ (z : Option Addr) (t : Nat) (A : Seg), e = .returned (.slice z r.length t) ∧ ownS Gx.encB r z t A ∧ Mem [] w w' [A] := by
 unfold M.l_toBoolS at hm
 refine cE Tryz.func56 ?_
 have M0 := Mem.refl [] w
 refine G_seq (G_region (wR 1 [(0, .slice g f.length h)] w (W_nil (N_then (G_seq (G_region (wR 2 [(0, .slice g f.length h), (6, iv (f.length : Int))] w ?_)))))))
 obtain ⟨y, I, hm⟩ := gx_bind hm
 refine W_make (E := Gx.encB) _ _ _ (f.length : Int) 1 [.bool false] (false : Bool) M0 (by kernel_rfl) rfl (by kernel_rfl) (by kernel_rfl) (by kernel_rfl) (by kernel_rfl) (by kernel_rfl) I ?_
 intro c d Q B K C
 refine wR 1 [(0, .slice g f.length h), (3, .slice c y.length d)] B (W_nil (N_then (G_seq (G_seq (G_region (wR 1 [(0, .slice g f.length h), (3, .slice c y.length d), (4, iv 0)] B (W_nil (N_then ?_))))))))
 obtain ⟨l, P, J⟩ := gx_bind hm
 refine G_meet (fun a w' => ∃ (n : Seg), ownS Gx.encB l c d n ∧ Mem [] w w' [n] ∧ Sat Tryz.f56.ntmps [(3, .slice c l.length d)] a) ?_ ?_
 ·refine G_block (G_while (σ := Int × List Bool) (ρ := List Bool) (fun b a w' => ∃ (m : Seg), ownS Gx.encB b.2 c d m ∧ Mem [] w w' [m] ∧ Sat Tryz.f56.ntmps [(0, .slice g f.length h), (3, .slice c b.2.length d), (4, iv b.1)] a) P (fun a ha => ⟨Q, K, C.pk [0], ha.s⟩) ?_)
  clear hm
  intro b X hm O V k ⟨m, q, j, G⟩
  refine G_use G (G_seq (G_seq (G_region (wR 4 [(0, .slice g f.length h), (3, .slice c b.2.length d), (4, iv b.1), (11, .bool (decide (b.1 < (f.length : Int))))] k (W_nil (N_then ?_))))))
  rcases gx_bif hm with ⟨o, hm⟩ | ⟨o, hm⟩
  ·refine gT o (G_skip (N_then (G_seq (G_block (G_region (wR 4 [(0, .slice g f.length h), (3, .slice c b.2.length d), (4, iv b.1), (14, .slice c b.2.length d), (15, iv b.1), (16, .slice g f.length h), (17, iv b.1)] k ?_))))))
   obtain ⟨i, v, hm⟩ := gx_bind hm
   refine wV (elemP g (b.1.toNat * 1)) k (eI (u.mem0 j) rfl v) (wV (.bool i) k (eE false 1 0 (b.1.toNat * 1) (u.mem0 j) v) ?_)
   obtain ⟨U, x, hm⟩ := gx_bind hm
   refine wV (elemP c (b.1.toNat * 1)) k (eI (q.rd j 0 (by kernel_rfl)) rfl x) (wE false 1 b.1.toNat 0 (b.1.toNat * 1) U i (.bool i) 0 j q (gxIdx_spec x).2 ?_)
   intro S R N D
   refine wX 3 (.slice c b.2.length d) (.slice c (b.2.set b.1.toNat i).length d) (by rw [@List.length_set _ b.2 b.1.toNat i]) (wX 14 (.slice c b.2.length d) (.slice c (b.2.set b.1.toNat i).length d) (by rw [@List.length_set _ b.2 b.1.toNat i]) (W_nil (N_block (N_then (G_region (wR 3 [(0, .slice g f.length h), (3, .slice c (b.2.set b.1.toNat i).length d), (4, iv (w64 (b.1 + 1)))] S (W_nil ?_)))))))
   obtain rfl := Option.some.inj hm
   exact N_loop fun a ha => ⟨_, rfl, R, N, D.pk [0], ha.s⟩
  refine gF o (G_exit (N_then_exit (N_then_exit (N_block_eq ?_))))
  obtain rfl := Option.some.inj hm
  obtain rfl := O _ rfl
  exact N_meet fun a ha => ⟨m, q, j.pk [0], ha.s⟩
 intro W T ⟨n, L, F, H⟩
 refine N_use H ?_
 have hm := J
 refine N_then (G_seq (G_region (wR 2 [(2, .slice c l.length d)] T (W_nil (N_then (G_ret ?_))))))
 obtain rfl := Option.some.inj hm
 exact N_ret [.slice c l.length d] (rC RVs_nil) (⟨c, d, n, rfl, L, F.pk [0]⟩)
theorem c_l_toIntS (w : World) (f : List Int) (g : Option Addr) (h : Nat) (u : rdS Gx.encI w f g h) {r : (List Int)} (hm : M.l_toIntS f = some r) :
  Calls Tryz.prog 157 #[.slice g f.length h] w fun e w' => ∃ (z : Option Addr) (t : Nat) (A : Seg), e = .returned (.slice z r.length t) ∧ ownS Gx.encI r z t A ∧ Mem [] w w' [A] := by
 unfold M.l_toIntS at hm
 refine cE Tryz.func157 ?_
 have M0 := Mem.refl [] w
 refine G_seq (G_region (wR 1 [(0, .slice g f.length h)] w (W_nil (N_then (G_seq (G_region (wR 2 [(0, .slice g f.length h), (6, iv (f.length : Int))] w ?_)))))))
 obtain ⟨y, I, hm⟩ := gx_bind hm
 refine W_make (E := Gx.encI) _ _ _ (f.length : Int) 8 [iv 0] (0 : Int) M0 (by kernel_rfl) rfl (by kernel_rfl) (by kernel_rfl) (by kernel_rfl) (by kernel_rfl) (by kernel_rfl) I ?_
 intro c d Q B K C
 refine wR 1 [(0, .slice g f.length h), (3, .slice c y.length d)] B (W_nil (N_then (G_seq (G_seq (G_region (wR 1 [(0, .slice g f.length h), (3, .slice c y.length d), (4, iv 0)] B (W_nil (N_then ?_))))))))
 obtain ⟨l, P, J⟩ := gx_bind hm
 refine G_meet (fun a w' => ∃ (n : Seg), ownS Gx.encI l c d n ∧ Mem [] w w' [n] ∧ Sat Tryz.f157.ntmps [(3, .slice c l.length d)] a) ?_ ?_
 ·refine G_block (G_while (σ := Int × List Int) (ρ := List Int) (fun b a w' => ∃ (m : Seg), ownS Gx.encI b.2 c d m ∧ Mem [] w w' [m] ∧ Sat Tryz.f157.ntmps [(0, .slice g f.length h), (3, .slice c b.2.length d), (4, iv b.1)] a) P (fun a ha => ⟨Q, K, C.pk [0], ha.s⟩) ?_)
  clear hm
  intro b X hm O V k ⟨m, q, j, G⟩
  refine G_use G (G_seq (G_seq (G_region (wR 4 [(0, .slice g f.length h), (3, .slice c b.2.length d), (4, iv b.1), (11, .bool (decide (b.1 < (f.length : Int))))] k (W_nil (N_then ?_))))))
  rcases gx_bif hm with ⟨o, hm⟩ | ⟨o, hm⟩
  ·refine gT o (G_skip (N_then (G_seq (G_block (G_region (wR 4 [(0, .slice g f.length h), (3, .slice c b.2.length d), (4, iv b.1), (14, .slice c b.2.length d), (15, iv b.1), (16, .slice g f.length h), (17, iv b.1)] k ?_))))))
   obtain ⟨i, v, hm⟩ := gx_bind hm
   refine wV (elemP g (b.1.toNat * 1)) k (eI (u.mem0 j) rfl v) (wV (iv i) k (eE false 1 0 (b.1.toNat * 1) (u.mem0 j) v) ?_)
   obtain ⟨U, x, hm⟩ := gx_bind hm
   refine wV (elemP c (b.1.toNat * 1)) k (eI (q.rd j 0 (by kernel_rfl)) rfl x) (wE false 1 b.1.toNat 0 (b.1.toNat * 1) U i (iv i) 0 j q (gxIdx_spec x).2 ?_)
   intro S R N D
   refine wX 3 (.slice c b.2.length d) (.slice c (b.2.set b.1.toNat i).length d) (by rw [@List.length_set _ b.2 b.1.toNat i]) (wX 14 (.slice c b.2.length d) (.slice c (b.2.set b.1.toNat i).length d) (by rw [@List.length_set _ b.2 b.1.toNat i]) (W_nil (N_block (N_then (G_region (wR 3 [(0, .slice g f.length h), (3, .slice c (b.2.set b.1.toNat i).length d), (4, iv (w64 (b.1 + 1)))] S (W_nil ?_)))))))
   obtain rfl := Option.some.inj hm
   exact N_loop fun a ha => ⟨_, rfl, R, N, D.pk [0], ha.s⟩
  refine gF o (G_exit (N_then_exit (N_then_exit (N_block_eq ?_))))
  obtain rfl := Option.some.inj hm
  obtain rfl := O _ rfl
  exact N_meet fun a ha => ⟨m, q, j.pk [0], ha.s⟩
 intro W T ⟨n, L, F, H⟩
 refine N_use H ?_
 have hm := J
 refine N_then (G_seq (G_region (wR 2 [(2, .slice c l.length d)] T (W_nil (N_then (G_ret ?_))))))
 obtain rfl := Option.some.inj hm
 exact N_ret [.slice c l.length d] (rC RVs_nil) (⟨c, d, n, rfl, L, F.pk [0]⟩)
theorem c_l_toSlot (w : World) (a : Slot) {r : Slot} (hm : M.l_toSlot a = some r) :
  Calls Tryz.prog 237 #[.agg #[iv a.State, iv a.Irq, iv a.Priority]] w fun e w' => e = .returned (.agg #[iv r.State, iv r.Irq, iv r.Priority]) ∧ Mem [] w w' [] := by
 unfold M.l_toSlot at hm
 refine cE Tryz.func237 ?_
 have M0 := Mem.refl [] w
 refine G_seq (G_region (wN (.cells ⟨[iv a.State, iv a.Irq, iv a.Priority]⟩ 225 (0, 0)) M0 ?_))
 intro f z u
 refine wN (.cells ⟨[iv 0, iv 0, iv 0]⟩ 117 (0, 0)) u ?_
 intro d A x
 refine W_nil (N_then (G_seq (G_region (wN (.cells ⟨[iv 0, iv 0, iv 0]⟩ 117 (0, 0)) x ?_))))
 intro c h l
 refine W_nil (N_then (G_seq (G_region (wR 1 [(1, pB f 0), (2, pB d 0), (3, pB c 0), (4, pB f 0)] h (wV (iv a.State) h (eL false 1 0 (l.blk 0 rfl)) (wR 1 [(1, pB f 0), (2, pB d 0), (3, pB c 0), (5, iv a.State), (6, pB c 0)] h (wS false 1 0 (iv a.State) 2 [iv a.State, iv 0, iv 0] l rfl ?_)))))))
 intro i m
 refine W_nil (N_then (G_seq (G_region (wR 1 [(1, pB f 0), (2, pB d 0), (3, pB c 0), (7, pB f 1)] i (wV (iv a.Irq) i (eL false 1 1 (m.blk 0 rfl)) (wR 1 [(1, pB f 0), (2, pB d 0), (3, pB c 0), (8, iv a.Irq), (9, pB c 1)] i (wS false 1 1 (iv a.Irq) 2 [iv a.State, iv a.Irq, iv 0] m rfl ?_)))))))
 intro j n
 refine W_nil (N_then (G_seq (G_region (wR 1 [(2, pB d 0), (3, pB c 0), (10, pB f 2)] j (wV (iv a.Priority) j (eL false 1 2 (n.blk 0 rfl)) (wR 1 [(2, pB d 0), (3, pB c 0), (11, iv a.Priority), (12, pB c 2)] j (wS false 1 2 (iv a.Priority) 2 [iv a.State, iv a.Irq, iv a.Priority] n rfl ?_)))))))
 intro y q
 refine W_nil (N_then (G_seq (G_region (wV (.agg #[iv a.State, iv a.Irq, iv a.Priority]) y (eL true 3 0 (q.blk 2 rfl)) (wS true 3 0 (.agg #[iv a.State, iv a.Irq, iv a.Priority]) 1 [iv a.State, iv a.Irq, iv a.Priority] q rfl ?_)))))
 intro B t
 refine W_nil (N_then (G_ret ?_))
 obtain rfl := Option.some.inj hm
 exact N_ret [.agg #[iv a.State, iv a.Irq, iv a.Priority]] (RVs_cons (RV_cell (g := true) (k := 3) (b := d) (off := 0) (cs := [iv a.State, iv a.Irq, iv a.Priority]) (e := 117) (fr := (0, 0)) (v := .agg #[iv a.State, iv a.Irq, iv a.Priority]) (t.blk 1 (b := d) (o := .cells ⟨[iv a.State, iv a.Irq, iv a.Priority]⟩ 117 (0, 0)) (by kernel_rfl)) (by kernel_rfl) (by kernel_rfl) (by kernel_rfl)) RVs_nil) (⟨rfl, t.pk []⟩)
theorem c_l_toSlotS (w : World) (f : List Slot) (g : Option Addr) (h : Nat) (x : rdS encSlot w f g h) {r : (List Slot)} (hm : M.l_toSlotS f = some r) :
  Calls Tryz.prog 193 #[.slice g f.length h] w fun e w' => ∃ (B : Option Addr) (v : Nat) (C : Seg), e = .returned (.slice B r.length v) ∧ ownS encSlot r B v C ∧ Mem [] w w' [C] := by
 unfold M.l_toSlotS at hm
 refine cE Tryz.func193 ?_
 have M0 := Mem.refl [] w
 refine G_seq (G_region (wR 1 [(0, .slice g f.length h)] w (W_nil (N_then (G_seq (G_region (wR 2 [(0, .slice g f.length h), (6, iv (f.length : Int))] w ?_)))))))
 obtain ⟨A, L, hm⟩ := gx_bind hm
 refine W_make (E := encSlot) _ _ _ (f.length : Int) 24 [iv 0, iv 0, iv 0] ((⟨0, 0, 0⟩ : Slot) : Slot) M0 (by kernel_rfl) rfl (by kernel_rfl) (by kernel_rfl) (by kernel_rfl) (by kernel_rfl) (by kernel_rfl) L ?_
 intro c d U D O G
 refine wR 1 [(0, .slice g f.length h), (3, .slice c A.length d)] D (W_nil (N_then (G_seq (G_seq (G_region (wR 1 [(0, .slice g f.length h), (3, .slice c A.length d), (4, iv 0)] D (W_nil (N_then ?_))))))))
 obtain ⟨m, T, N⟩ := gx_bind hm
 refine G_meet (fun a w' => ∃ (o : Seg), ownS encSlot m c d o ∧ Mem [] w w' [o] ∧ Sat Tryz.f193.ntmps [(3, .slice c m.length d)] a) ?_ ?_
 ·refine G_block (G_while (σ := Int × List Slot) (ρ := List Slot) (fun b a w' => ∃ (n : Seg), ownS encSlot b.2 c d n ∧ Mem [] w w' [n] ∧ Sat Tryz.f193.ntmps [(0, .slice g f.length h), (3, .slice c b.2.length d), (4, iv b.1)] a) T (fun a ha => ⟨U, O, G.pk [0], ha.s⟩) ?_)
  clear hm
  intro b ac hm R aa k ⟨n, t, l, J⟩
  refine G_use J (G_seq (G_seq (G_region (wR 4 [(0, .slice g f.length h), (3, .slice c b.2.length d), (4, iv b.1), (11, .bool (decide (b.1 < (f.length : Int))))] k (W_nil (N_then ?_))))))
  rcases gx_bif hm with ⟨q, hm⟩ | ⟨q, hm⟩
  ·refine gT q (G_skip (N_then (G_seq (G_block (G_region (wR 4 [(0, .slice g f.length h), (3, .slice c b.2.length d), (4, iv b.1), (14, .slice c b.2.length d), (15, iv b.1), (16, .slice g f.length h), (17, iv b.1)] k ?_))))))
   obtain ⟨j, y, hm⟩ := gx_bind hm
   refine wV (elemP g (b.1.toNat * 3)) k (eI (x.mem0 l) rfl y) (wV (.agg #[iv j.State, iv j.Irq, iv j.Priority]) k (eE true 3 0 (b.1.toNat * 3) (x.mem0 l) y) ?_)
   obtain ⟨i, S, hm⟩ := gx_bind hm
   refine wC 237 #[.agg #[iv j.State, iv j.Irq, iv j.Priority]] ((c_l_toSlot k j S).mono ?_)
   rintro e_ W ⟨rfl, F⟩
   have u := l.call0 F
   refine ⟨_, rfl, ?_⟩
   obtain ⟨Z, z, hm⟩ := gx_bind hm
   refine wV (elemP c (b.1.toNat * 3)) W (eI (t.rd u 0 (by kernel_rfl)) rfl z) (wE true 3 b.1.toNat 0 (b.1.toNat * 3) Z i (.agg #[iv i.State, iv i.Irq, iv i.Priority]) 0 u t (gxIdx_spec z).2 ?_)
   intro X V Q H
   refine wX 3 (.slice c b.2.length d) (.slice c (b.2.set b.1.toNat i).length d) (by rw [@List.length_set _ b.2 b.1.toNat i]) (wX 14 (.slice c b.2.length d) (.slice c (b.2.set b.1.toNat i).length d) (by rw [@List.length_set _ b.2 b.1.toNat i]) (W_nil (N_block (N_then (G_region (wR 3 [(0, .slice g f.length h), (3, .slice c (b.2.set b.1.toNat i).length d), (4, iv (w64 (b.1 + 1)))] X (W_nil ?_)))))))
   obtain rfl := Option.some.inj hm
   exact N_loop fun a ha => ⟨_, rfl, V, Q, H.pk [0], ha.s⟩
  refine gF q (G_exit (N_then_exit (N_then_exit (N_block_eq ?_))))
  obtain rfl := Option.some.inj hm
  obtain rfl := R _ rfl
  exact N_meet fun a ha => ⟨n, t, l.pk [0], ha.s⟩
 intro ab Y ⟨o, P, I, K⟩
 refine N_use K ?_
 have hm := N
 refine N_then (G_seq (G_region (wR 2 [(2, .slice c m.length d)] Y (W_nil (N_then (G_ret ?_))))))
 obtain rfl := Option.some.inj hm
 exact N_ret [.slice c m.length d] (rC RVs_nil) (⟨c, d, o, rfl, P, I.pk [0]⟩)
theorem c_l_toWaiter (w : World) (a : Waiter) {r : Waiter} (hm : M.l_toWaiter a = some r) :
  Calls Tryz.prog 238 #[.agg #[iv a.Irq, iv a.Priority]] w fun e w' => e = .returned (.agg #[iv r.Irq, iv r.Priority]) ∧ Mem [] w w' [] := by
 unfold M.l_toWaiter at hm
 refine cE Tryz.func238 ?_
 have M0 := Mem.refl [] w
 refine G_seq (G_region (wN (.cells ⟨[iv a.Irq, iv a.Priority]⟩ 227 (0, 0)) M0 ?_))
 intro f x q
 refine wN (.cells ⟨[iv 0, iv 0]⟩ 142 (0, 0)) q ?_
 intro c y t
 refine W_nil (N_then (G_seq (G_region (wN (.cells ⟨[iv 0, iv 0]⟩ 142 (0, 0)) t ?_))))
 intro d h j
 refine W_nil (N_then (G_seq (G_region (wR 1 [(1, pB f 0), (2, pB c 0), (3, pB d 0), (4, pB f 0)] h (wV (iv a.Irq) h (eL false 1 0 (j.blk 0 rfl)) (wR 1 [(1, pB f 0), (2, pB c 0), (3, pB d 0), (5, iv a.Irq), (6, pB d 0)] h (wS false 1 0 (iv a.Irq) 2 [iv a.Irq, iv 0] j rfl ?_)))))))
 intro i l
 refine W_nil (N_then (G_seq (G_region (wR 1 [(2, pB c 0), (3, pB d 0), (7, pB f 1)] i (wV (iv a.Priority) i (eL false 1 1 (l.blk 0 rfl)) (wR 1 [(2, pB c 0), (3, pB d 0), (8, iv a.Priority), (9, pB d 1)] i (wS false 1 1 (iv a.Priority) 2 [iv a.Irq, iv a.Priority] l rfl ?_)))))))
 intro u m
 refine W_nil (N_then (G_seq (G_region (wV (.agg #[iv a.Irq, iv a.Priority]) u (eL true 2 0 (m.blk 2 rfl)) (wS true 2 0 (.agg #[iv a.Irq, iv a.Priority]) 1 [iv a.Irq, iv a.Priority] m rfl ?_)))))
 intro z n
 refine W_nil (N_then (G_ret ?_))
 obtain rfl := Option.some.inj hm
 exact N_ret [.agg #[iv a.Irq, iv a.Priority]] (RVs_cons (RV_cell (g := true) (k := 2) (b := c) (off := 0) (cs := [iv a.Irq, iv a.Priority]) (e := 142) (fr := (0, 0)) (v := .agg #[iv a.Irq, iv a.Priority]) (n.blk 1 (b := c) (o := .cells ⟨[iv a.Irq, iv a.Priority]⟩ 142 (0, 0)) (by kernel_rfl)) (by kernel_rfl) (by kernel_rfl) (by kernel_rfl)) RVs_nil) (⟨rfl, n.pk []⟩)
theorem c_l_toWaiterS (w : World) (f : List Waiter) (g : Option Addr) (h : Nat) (x : rdS encWaiter w f g h) {r : (List Waiter)} (hm : M.l_toWaiterS f = some r) :
  Calls Tryz.prog 194 #[.slice g f.length h] w fun e w' => ∃ (B : Option Addr) (v : Nat) (C : Seg), e = .returned (.slice B r.length v) ∧ ownS encWaiter r B v C ∧ Mem [] w w' [C] := by
 unfold M.l_toWaiterS at hm
 refine cE Tryz.func194 ?_
 have M0 := Mem.refl [] w
 refine G_seq (G_region (wR 1 [(0, .slice g f.length h)] w (W_nil (N_then (G_seq (G_region (wR 2 [(0, .slice g f.length h), (6, iv (f.length : Int))] w ?_)))))))
 obtain ⟨A, L, hm⟩ := gx_bind hm
 refine W_make (E := encWaiter) _ _ _ (f.length : Int) 16 [iv 0, iv 0] ((⟨0, 0⟩ : Waiter) : Waiter) M0 (by kernel_rfl) rfl (by kernel_rfl) (by kernel_rfl) (by kernel_rfl) (by kernel_rfl) (by kernel_rfl) L ?_
 intro c d U D O G
 refine wR 1 [(0, .slice g f.length h), (3, .slice c A.length d)] D (W_nil (N_then (G_seq (G_seq (G_region (wR 1 [(0, .slice g f.length h), (3, .slice c A.length d), (4, iv 0)] D (W_nil (N_then ?_))))))))
 obtain ⟨m, T, N⟩ := gx_bind hm
 refine G_meet (fun a w' => ∃ (o : Seg), ownS encWaiter m c d o ∧ Mem [] w w' [o] ∧ Sat Tryz.f194.ntmps [(3, .slice c m.length d)] a) ?_ ?_
 ·refine G_block (G_while (σ := Int × List Waiter) (ρ := List Waiter) (fun b a w' => ∃ (n : Seg), ownS encWaiter b.2 c d n ∧ Mem [] w w' [n] ∧ Sat Tryz.f194.ntmps [(0, .slice g f.length h), (3, .slice c b.2.length d), (4, iv b.1)] a) T (fun a ha => ⟨U, O, G.pk [0], ha.s⟩) ?_)
  clear hm
  intro b ac hm R aa j ⟨n, t, l, J⟩
  refine G_use J (G_seq (G_seq (G_region (wR 4 [(0, .slice g f.length h), (3, .slice c b.2.length d), (4, iv b.1), (11, .bool (decide (b.1 < (f.length : Int))))] j (W_nil (N_then ?_))))))
  rcases gx_bif hm with ⟨q, hm⟩ | ⟨q, hm⟩
  ·refine gT q (G_skip (N_then (G_seq (G_block (G_region (wR 4 [(0, .slice g f.length h), (3, .slice c b.2.length d), (4, iv b.1), (14, .slice c b.2.length d), (15, iv b.1), (16, .slice g f.length h), (17, iv b.1)] j ?_))))))
   obtain ⟨k, y, hm⟩ := gx_bind hm
   refine wV (elemP g (b.1.toNat * 2)) j (eI (x.mem0 l) rfl y) (wV (.agg #[iv k.Irq, iv k.Priority]) j (eE true 2 0 (b.1.toNat * 2) (x.mem0 l) y) ?_)
   obtain ⟨i, S, hm⟩ := gx_bind hm
   refine wC 238 #[.agg #[iv k.Irq, iv k.Priority]] ((c_l_toWaiter j k S).mono ?_)
   rintro e_ W ⟨rfl, F⟩
   have u := l.call0 F
   refine ⟨_, rfl, ?_⟩
   obtain ⟨Z, z, hm⟩ := gx_bind hm
   refine wV (elemP c (b.1.toNat * 2)) W (eI (t.rd u 0 (by kernel_rfl)) rfl z) (wE true 2 b.1.toNat 0 (b.1.toNat * 2) Z i (.agg #[iv i.Irq, iv i.Priority]) 0 u t (gxIdx_spec z).2 ?_)
   intro X V Q H
   refine wX 3 (.slice c b.2.length d) (.slice c (b.2.set b.1.toNat i).length d) (by rw [@List.length_set _ b.2 b.1.toNat i]) (wX 14 (.slice c b.2.length d) (.slice c (b.2.set b.1.toNat i).length d) (by rw [@List.length_set _ b.2 b.1.toNat i]) (W_nil (N_block (N_then (G_region (wR 3 [(0, .slice g f.length h), (3, .slice c (b.2.set b.1.toNat i).length d), (4, iv (w64 (b.1 + 1)))] X (W_nil ?_)))))))
   obtain rfl := Option.some.inj hm
   exact N_loop fun a ha => ⟨_, rfl, V, Q, H.pk [0], ha.s⟩
  refine gF q (G_exit (N_then_exit (N_then_exit (N_block_eq ?_))))
  obtain rfl := Option.some.inj hm
  obtain rfl := R _ rfl
  exact N_meet fun a ha => ⟨n, t, l.pk [0], ha.s⟩
 intro ab Y ⟨o, P, I, K⟩
 refine N_use K ?_
 have hm := N
 refine N_then (G_seq (G_region (wR 2 [(2, .slice c m.length d)] Y (W_nil (N_then (G_ret ?_))))))
 obtain rfl := Option.some.inj hm
 exact N_ret [.slice c m.length d] (rC RVs_nil) (⟨c, d, o, rfl, P, I.pk [0]⟩)
theorem c_l_toQueue (w : World) (a : Queue) (t : Option Addr) (n : Nat) (Q : rdS encSlot w a.Slots t n) (u : Option Addr) (q : Nat) (R : rdS encWaiter w a.Waiting u q) {r : Queue} (hm : M.l_toQueue a = some r) :
  Calls Tryz.prog 158 #[.agg #[.slice t a.Slots.length n, .slice u a.Waiting.length q]] w fun e w' => ∃ (F : Option Addr) (D : Nat) (H : Seg), ∃ (G : Option Addr) (E : Nat) (I : Seg), e = .returned (.agg #[.slice F r.Slots.length D, .slice G r.Waiting.length E]) ∧ ownS encSlot r.Slots F D H ∧ ownS encWaiter r.Waiting G E I ∧ Mem [] w w' [H, I] := by
 unfold M.l_toQueue at hm
 refine cE Tryz.func158 ?_
 have M0 := Mem.refl [] w
 refine G_seq (G_region (wN (.cells ⟨[.slice t a.Slots.length n, .slice u a.Waiting.length q]⟩ 124 (0, 0)) M0 ?_))
 intro x ab L
 refine wN (.cells ⟨[.slice none 0 0, .slice none 0 0]⟩ 85 (0, 0)) L ?_
 intro l w640 N
 refine W_nil (N_then (G_seq (G_region (wN (.cells ⟨[.slice none 0 0, .slice none 0 0]⟩ 85 (0, 0)) N ?_))))
 intro m w646 y
 refine W_nil (N_then (G_seq (G_region (wR 1 [(1, pB x 0), (2, pB l 0), (3, pB m 0), (4, pB x 0)] w646 (wV (.slice t a.Slots.length n) w646 (eL false 1 0 (y.blk 0 rfl)) ?_)))))
 obtain ⟨i, U, hm⟩ := gx_bind hm
 refine wC 193 #[.slice t a.Slots.length n] ((c_l_toSlotS w646 a.Slots t n (Q.mem0 y) U).mono ?_)
 rintro e_ Y ⟨d, c, W, rfl, S, J⟩
 have O := y.call J
 refine ⟨_, rfl, ?_⟩
 refine wR 1 [(1, pB x 0), (2, pB l 0), (3, pB m 0), (6, .slice d i.length c), (7, pB m 0)] Y (wS false 1 0 (.slice d i.length c) 2 [.slice d i.length c, .slice none 0 0] O rfl ?_)
 intro A z
 refine W_nil (N_then (G_seq (G_region (wR 1 [(2, pB l 0), (3, pB m 0), (8, pB x 1)] A (wV (.slice u a.Waiting.length q) A (eL false 1 1 (z.blk 0 rfl)) ?_)))))
 obtain ⟨j, V, hm⟩ := gx_bind hm
 refine wC 194 #[.slice u a.Waiting.length q] ((c_l_toWaiterS A a.Waiting u q (R.mem0 z) V).mono ?_)
 rintro e_ Z ⟨h, f, X, rfl, T, K⟩
 have P := z.call K
 refine ⟨_, rfl, ?_⟩
 refine wR 1 [(2, pB l 0), (3, pB m 0), (10, .slice h j.length f), (11, pB m 1)] Z (wS false 1 1 (.slice h j.length f) 2 [.slice d i.length c, .slice h j.length f] P rfl ?_)
 intro aa B
 refine W_nil (N_then (G_seq (G_region (wV (.agg #[.slice d i.length c, .slice h j.length f]) aa (eL true 2 0 (B.blk 2 rfl)) (wS true 2 0 (.agg #[.slice d i.length c, .slice h j.length f]) 1 [.slice d i.length c, .slice h j.length f] B rfl ?_)))))
 intro ac C
 refine W_nil (N_then (G_ret ?_))
 obtain rfl := Option.some.inj hm
 exact N_ret [.agg #[.slice d i.length c, .slice h j.length f]] (RVs_cons (RV_cell (g := true) (k := 2) (b := l) (off := 0) (cs := [.slice d i.length c, .slice h j.length f]) (e := 85) (fr := (0, 0)) (v := .agg #[.slice d i.length c, .slice h j.length f]) (C.blk 1 (b := l) (o := .cells ⟨[.slice d i.length c, .slice h j.length f]⟩ 85 (0, 0)) (by kernel_rfl)) (by kernel_rfl) (by kernel_rfl) (by kernel_rfl)) RVs_nil) (⟨d, c, W, h, f, X, rfl, S, T, C.pk [3, 4]⟩)
theorem c_l_toInterface (w : World) (a : Interface) (z : Option Addr) (u : Nat) (aa : rdS Gx.encI w a.Stack z u) (A : Option Addr) (x : Nat) (ab : rdS encSlot w a.Queue.Slots A x) (B : Option Addr) (y : Nat) (ac : rdS encWaiter w a.Queue.Waiting B y) {r : Interface} (hm : M.l_toInterface a = some r) :
  Calls Tryz.prog 107 #[.agg #[iv a.Mask, .slice z a.Stack.length u, .slice A a.Queue.Slots.length x, .slice B a.Queue.Waiting.length y]] w fun e w' => ∃ (O : Option Addr) (K : Nat) (R : Seg), ∃ (P : Option Addr) (L : Nat) (S : Seg), ∃ (Q : Option Addr) (N : Nat) (T : Seg), e = .returned (.agg #[iv r.Mask, .slice O r.Stack.length K, .slice P r.Queue.Slots.length L, .slice Q r.Queue.Waiting.length N]) ∧ ownS Gx.encI r.Stack O K R ∧ ownS encSlot r.Queue.Slots P L S ∧ ownS encWaiter r.Queue.Waiting Q N T ∧ Mem [] w w' [R, S, T] := by
 unfold M.l_toInterface at hm
 refine cE Tryz.func107 ?_
 have M0 := Mem.refl [] w
 refine G_seq (G_region (wN (.cells ⟨[iv a.Mask, .slice z a.Stack.length u, .slice A a.Queue.Slots.length x, .slice B a.Queue.Waiting.length y]⟩ 126 (0, 0)) M0 ?_))
 intro t ao W
 refine wN (.cells ⟨[iv 0, .slice none 0 0, .slice none 0 0, .slice none 0 0]⟩ 87 (0, 0)) W ?_
 intro q ap X
 refine W_nil (N_then (G_seq (G_region (wN (.cells ⟨[iv 0, .slice none 0 0, .slice none 0 0, .slice none 0 0]⟩ 87 (0, 0)) X ?_))))
 intro n E H
 refine W_nil (N_then (G_seq (G_region (wR 1 [(1, pB t 0), (2, pB q 0), (3, pB n 0), (4, pB t 0)] E (wV (iv a.Mask) E (eL false 1 0 (H.blk 0 rfl)) (wR 1 [(1, pB t 0), (2, pB q 0), (3, pB n 0), (5, iv a.Mask), (6, pB n 0)] E (wS false 1 0 (iv a.Mask) 2 [iv a.Mask, .slice none 0 0, .slice none 0 0, .slice none 0 0] H rfl ?_)))))))
 intro F D
 refine W_nil (N_then (G_seq (G_region (wR 1 [(1, pB t 0), (2, pB q 0), (3, pB n 0), (7, pB t 1)] F (wV (.slice z a.Stack.length u) F (eL false 1 1 (D.blk 0 rfl)) ?_)))))
 obtain ⟨m, ag, hm⟩ := gx_bind hm
 refine wC 157 #[.slice z a.Stack.length u] ((c_l_toIntS F a.Stack z u (aa.mem0 D) ag).mono ?_)
 rintro e_ al ⟨f, d, ai, rfl, ad, U⟩
 have Y := D.call U
 refine ⟨_, rfl, ?_⟩
 refine wR 1 [(1, pB t 0), (2, pB q 0), (3, pB n 0), (9, .slice f m.length d), (10, pB n 1)] al (wS false 1 1 (.slice f m.length d) 2 [iv a.Mask, .slice f m.length d, .slice none 0 0, .slice none 0 0] Y rfl ?_)
 intro G C
 refine W_nil (N_then (G_seq (G_region (wR 1 [(2, pB q 0), (3, pB n 0), (11, pB t 2)] G (wV (.agg #[.slice A a.Queue.Slots.length x, .slice B a.Queue.Waiting.length y]) G (eL true 2 2 (C.blk 0 rfl)) ?_)))))
 obtain ⟨c, ah, hm⟩ := gx_bind hm
 refine wC 158 #[.agg #[.slice A a.Queue.Slots.length x, .slice B a.Queue.Waiting.length y]] ((c_l_toQueue G (⟨a.Queue.Slots, a.Queue.Waiting⟩ : Queue) A x (ab.mem0 C) B y (ac.mem0 C) ah).mono ?_)
 rintro e_ am ⟨j, h, aj, l, i, ak, rfl, ae, af, V⟩
 have Z := C.call V
 refine ⟨_, rfl, ?_⟩
 refine wR 1 [(2, pB q 0), (3, pB n 0), (13, .agg #[.slice j c.Slots.length h, .slice l c.Waiting.length i]), (14, pB n 2)] am (wS true 2 2 (.agg #[.slice j c.Slots.length h, .slice l c.Waiting.length i]) 2 [iv a.Mask, .slice f m.length d, .slice j c.Slots.length h, .slice l c.Waiting.length i] Z rfl ?_)
 intro an I
 refine W_nil (N_then (G_seq (G_region (wV (.agg #[iv a.Mask, .slice f m.length d, .slice j c.Slots.length h, .slice l c.Waiting.length i]) an (eL true 4 0 (I.blk 2 rfl)) (wS true 4 0 (.agg #[iv a.Mask, .slice f m.length d, .slice j c.Slots.length h, .slice l c.Waiting.length i]) 1 [iv a.Mask, .slice f m.length d, .slice j c.Slots.length h, .slice l c.Waiting.length i] I rfl ?_)))))
 intro aq J
 refine W_nil (N_then (G_ret ?_))
 obtain rfl := Option.some.inj hm
 exact N_ret [.agg #[iv a.Mask, .slice f m.length d, .slice j c.Slots.length h, .slice l c.Waiting.length i]] (RVs_cons (RV_cell (g := true) (k := 4) (b := q) (off := 0) (cs := [iv a.Mask, .slice f m.length d, .slice j c.Slots.length h, .slice l c.Waiting.length i]) (e := 87) (fr := (0, 0)) (v := .agg #[iv a.Mask, .slice f m.length d, .slice j c.Slots.length h, .slice l c.Waiting.length i]) (J.blk 1 (b := q) (o := .cells ⟨[iv a.Mask, .slice f m.length d, .slice j c.Slots.length h, .slice l c.Waiting.length i]⟩ 87 (0, 0)) (by kernel_rfl)) (by kernel_rfl) (by kernel_rfl) (by kernel_rfl)) RVs_nil) (⟨f, d, ai, j, h, aj, l, i, ak, rfl, ad, ae, af, J.pk [3, 4, 5]⟩)
theorem c_l_toInterfaceS (w : World) (h : List Interface) (k : Option Addr) (l : Nat) (am : rdD deepInterface w h k l) {r : (List Interface)} (hm : M.l_toInterfaceS h = some r) :
  Calls Tryz.prog 57 #[.slice k h.length l] w fun e w' => ∃ (aa : Option Addr) (T : Nat) (ab : Seg) (ac : Seg), e = .returned (.slice aa r.length T) ∧ ownD deepInterface r aa T ab ac ∧ Mem [] w w' [ab, ac] := by
 unfold M.l_toInterfaceS at hm
 refine cE Tryz.func57 ?_
 have M0 := Mem.refl [] w
 refine G_seq (G_region (wR 1 [(0, .slice k h.length l)] w (W_nil (N_then (G_seq (G_region (wR 2 [(0, .slice k h.length l), (6, iv (h.length : Int))] w ?_)))))))
 obtain ⟨Z, aq, hm⟩ := gx_bind hm
 refine W_makeD (D := deepInterface) _ _ _ (h.length : Int) 80 [iv 0, .slice none 0 0, .slice none 0 0, .slice none 0 0] ((⟨0, [], (⟨[], []⟩ : Queue)⟩ : Interface) : Interface) (plOf []) M0 (by kernel_rfl) rfl (by kernel_rfl) (by kernel_rfl) (by kernel_rfl) (by kernel_rfl) (by kernel_rfl) (by intro i hi; simp [deepInterface] at hi; first | (subst hi; exact ⟨rfl, rfl, rfl⟩) | (rcases hi with rfl | rfl | rfl <;> exact ⟨rfl, rfl, rfl⟩) | (rcases hi with rfl | rfl <;> exact ⟨rfl, rfl, rfl⟩)) aq ?_
 intro f g bb ad U ak
 have S := ak.addNil
 obtain ⟨a9, n485e⟩ : ∃ s : Seg, s = [] := ⟨_, rfl⟩
 rw [← n485e] at U S
 refine wR 1 [(0, .slice k h.length l), (3, .slice f Z.length g)] ad (W_nil (N_then (G_seq (G_seq (G_region (wR 1 [(0, .slice k h.length l), (3, .slice f Z.length g), (4, iv 0)] ad (W_nil (N_then ?_))))))))
 obtain ⟨A, a6, ar⟩ := gx_bind hm
 refine G_meet (fun a w' => ∃ (L : Seg), ∃ (N : Seg), ownD deepInterface A f g L N ∧ Mem [] w w' [L, N] ∧ Sat Tryz.f57.ntmps [(3, .slice f A.length g)] a) ?_ ?_
 ·refine G_block (G_while (σ := Int × List Interface) (ρ := List Interface) (fun c a w' => ∃ (J : Seg), ∃ (K : Seg), ownD deepInterface c.2 f g J K ∧ Mem [] w w' [J, K] ∧ Sat Tryz.f57.ntmps [(0, .slice k h.length l), (3, .slice f c.2.length g), (4, iv c.1)] a) a6 (fun a ha => ⟨bb, a9, U, S.pk [0, 1], ha.s⟩) ?_)
  clear hm
  intro c bj hm a0 bg t ⟨J, K, V, m, ao⟩
  refine G_use ao (G_seq (G_seq (G_region (wR 4 [(0, .slice k h.length l), (3, .slice f c.2.length g), (4, iv c.1), (11, .bool (decide (c.1 < (h.length : Int))))] t (W_nil (N_then ?_))))))
  rcases gx_bif hm with ⟨O, hm⟩ | ⟨O, hm⟩
  ·refine gT O (G_skip (N_then (G_seq (G_block (G_region (wR 4 [(0, .slice k h.length l), (3, .slice f c.2.length g), (4, iv c.1), (14, .slice f c.2.length g), (15, iv c.1), (16, .slice k h.length l), (17, iv c.1)] t ?_))))))
   obtain ⟨j, a8, hm⟩ := gx_bind hm
   obtain ⟨bl, Y, X, P⟩ := id am
   obtain ⟨d, n⟩ := gxIdx_fst Y a8
   refine wV (elemP k (c.1.toNat * 4)) t (eI (X.mem0 m) (len_fst Y) n) (wV (.agg #[iv j.Mask, .slice ((d 0).1) j.Stack.length ((d 0).2), .slice ((d 1).1) j.Queue.Slots.length ((d 1).2), .slice ((d 2).1) j.Queue.Waiting.length ((d 2).2)]) t (eE true 4 0 (c.1.toNat * 4) (X.mem0 m) n) ?_)
   obtain ⟨b, a4, hm⟩ := gx_bind hm
   refine wC 107 #[.agg #[iv j.Mask, .slice ((d 0).1) j.Stack.length ((d 0).2), .slice ((d 1).1) j.Queue.Slots.length ((d 1).2), .slice ((d 2).1) j.Queue.Waiting.length ((d 2).2)]] ((c_l_toInterface t (⟨j.Mask, j.Stack, (⟨j.Queue.Slots, j.Queue.Waiting⟩ : Queue)⟩ : Interface) ((d 0).1) ((d 0).2) ((P.mem0 m).at_ n 0 ⟨Int, Gx.encI, j.Stack, (d 0).1, (d 0).2⟩ (by kernel_rfl)) ((d 1).1) ((d 1).2) ((P.mem0 m).at_ n 1 ⟨Slot, encSlot, j.Queue.Slots, (d 1).1, (d 1).2⟩ (by kernel_rfl)) ((d 2).1) ((d 2).2) ((P.mem0 m).at_ n 2 ⟨Waiter, encWaiter, j.Queue.Waiting, (d 2).1, (d 2).2⟩ (by kernel_rfl)) a4).mono ?_)
   rintro e_ bc ⟨B, u, F, C, v, G, E, x, H, rfl, au, av, aw, ae⟩
   have R := m.call ae
   refine ⟨_, rfl, ?_⟩
   obtain ⟨be, a7, hm⟩ := gx_bind hm
   obtain ⟨bk, z, W, ap⟩ := id V
   obtain ⟨al, y⟩ := gxIdx_fst z a7
   refine wV (elemP f (c.1.toNat * 4)) bc (eI (W.rd R 0 (by kernel_rfl)) (len_fst z) y) ?_
   obtain ⟨o, ba, q, a5, bh, a3⟩ := ap.lens (gxIdx_spec y).2
   have af := R.cut 1 (sa := o) (sb := ba) (sc := q) a5 (by kernel_rfl)
   refine wE true 4 c.1.toNat 0 (c.1.toNat * 4) (be, al) ((⟨b.Mask, b.Stack, (⟨b.Queue.Slots, b.Queue.Waiting⟩ : Queue)⟩ : Interface), (plOf [(B, u), (C, v), (E, x)])) (.agg #[iv b.Mask, .slice B b.Stack.length u, .slice C b.Queue.Slots.length v, .slice E b.Queue.Waiting.length x]) 0 af W (gxIdx_spec y).2 ?_
   intro Q I ax ag
   have ah : Mem [] w Q [I, o, F, G, H, q] := ag.pk [0, 1, 2, 3, 4, 6]
   have ai : Mem [] w Q [I, (o ++ ((F ++ (G ++ (H ++ []))) ++ q))] := ah.regroup (by simp)
   have ay : ownD deepInterface (c.2.set c.1.toNat (⟨b.Mask, b.Stack, (⟨b.Queue.Slots, b.Queue.Waiting⟩ : Queue)⟩ : Interface)) f g I (o ++ ((F ++ (G ++ (H ++ []))) ++ q)) := ⟨_, set_fst z c.1.toNat ((⟨b.Mask, b.Stack, (⟨b.Queue.Slots, b.Queue.Waiting⟩ : Queue)⟩ : Interface), (plOf [(B, u), (C, v), (E, x)])), ax, (a3 ((⟨b.Mask, b.Stack, (⟨b.Queue.Slots, b.Queue.Waiting⟩ : Queue)⟩ : Interface), (plOf [(B, u), (C, v), (E, x)])) _ (ownI_cons (i := ⟨Int, Gx.encI, _, _, _⟩) au (ownI_cons (i := ⟨Slot, encSlot, _, _, _⟩) av (ownI_cons (i := ⟨Waiter, encWaiter, _, _, _⟩) aw ownI_nil))))⟩
   have bi := gxIdx_put (⟨b.Mask, b.Stack, (⟨b.Queue.Slots, b.Queue.Waiting⟩ : Queue)⟩ : Interface) (gxIdx_down z y)
   refine wX 3 (.slice f c.2.length g) (.slice f (c.2.set c.1.toNat (⟨b.Mask, b.Stack, (⟨b.Queue.Slots, b.Queue.Waiting⟩ : Queue)⟩ : Interface)).length g) (by rw [@List.length_set _ c.2 c.1.toNat (⟨b.Mask, b.Stack, (⟨b.Queue.Slots, b.Queue.Waiting⟩ : Queue)⟩ : Interface)]) (wX 14 (.slice f c.2.length g) (.slice f (c.2.set c.1.toNat (⟨b.Mask, b.Stack, (⟨b.Queue.Slots, b.Queue.Waiting⟩ : Queue)⟩ : Interface)).length g) (by rw [@List.length_set _ c.2 c.1.toNat (⟨b.Mask, b.Stack, (⟨b.Queue.Slots, b.Queue.Waiting⟩ : Queue)⟩ : Interface)]) (W_nil (N_block (N_then (G_region (wR 3 [(0, .slice k h.length l), (3, .slice f (c.2.set c.1.toNat (⟨b.Mask, b.Stack, (⟨b.Queue.Slots, b.Queue.Waiting⟩ : Queue)⟩ : Interface)).length g), (4, iv (w64 (c.1 + 1)))] Q (W_nil ?_)))))))
   obtain rfl := Option.some.inj hm
   exact N_loop fun a ha => ⟨_, rfl, I, (o ++ ((F ++ (G ++ (H ++ []))) ++ q)), ay, ai.pk [0, 1], ha.s⟩
  refine gF O (G_exit (N_then_exit (N_then_exit (N_block_eq ?_))))
  obtain rfl := Option.some.inj hm
  obtain rfl := a0 _ rfl
  exact N_meet fun a ha => ⟨J, K, V, m.pk [0, 1], ha.s⟩
 intro bf bd ⟨L, N, az, aj, an⟩
 refine N_use an ?_
 have hm := ar
 refine N_then (G_seq (G_region (wR 2 [(2, .slice f A.length g)] bd (W_nil (N_then (G_ret ?_))))))
 obtain rfl := Option.some.inj hm
 exact N_ret [.slice f A.length g] (rC RVs_nil) (⟨f, g, L, N, rfl, az, aj.pk [0, 1]⟩)
theorem c_l_toMachine (w : World) (a : Machine) (E : Option Addr) (A : Nat) (aq : rdS encRoute w a.Routes E A) (F : Option Addr) (B : Nat) (ar : rdS Gx.encB w a.Enabled F B) (G : Option Addr) (C : Nat) (au : rdS Gx.encB w a.Raised G C) (H : Option Addr) (D : Nat) (av : rdD deepInterface w a.Cpus H D) {r : Machine} (hm : M.l_toMachine a = some r) :
  Calls Tryz.prog 14 #[.agg #[.slice E a.Routes.length A, .slice F a.Enabled.length B, .slice G a.Raised.length C, .slice H a.Cpus.length D]] w fun e w' => ∃ (X : Option Addr) (T : Nat) (ab : Seg), ∃ (Y : Option Addr) (U : Nat) (ac : Seg), ∃ (Z : Option Addr) (V : Nat) (ad : Seg), ∃ (aa : Option Addr) (W : Nat) (ae : Seg) (af : Seg), e = .returned (.agg #[.slice X r.Routes.length T, .slice Y r.Enabled.length U, .slice Z r.Raised.length V, .slice aa r.Cpus.length W]) ∧ ownS encRoute r.Routes X T ab ∧ ownS Gx.encB r.Enabled Y U ac ∧ ownS Gx.encB r.Raised Z V ad ∧ ownD deepInterface r.Cpus aa W ae af ∧ Mem [] w w' [ab, ac, ad, ae, af] := by
 unfold M.l_toMachine at hm
 refine cE Tryz.func14 ?_
 have M0 := Mem.refl [] w
 refine G_seq (G_region (wN (.cells ⟨[.slice E a.Routes.length A, .slice F a.Enabled.length B, .slice G a.Raised.length C, .slice H a.Cpus.length D]⟩ 26 (0, 0)) M0 ?_))
 intro x bh al
 refine wN (.cells ⟨[.slice none 0 0, .slice none 0 0, .slice none 0 0, .slice none 0 0]⟩ 32 (0, 0)) al ?_
 intro y bi am
 refine W_nil (N_then (G_seq (G_region (wN (.cells ⟨[.slice none 0 0, .slice none 0 0, .slice none 0 0, .slice none 0 0]⟩ 32 (0, 0)) am ?_))))
 intro j N I
 refine W_nil (N_then (G_seq (G_region (wR 1 [(1, pB x 0), (2, pB y 0), (3, pB j 0), (4, pB x 0)] N (wV (.slice E a.Routes.length A) N (eL false 1 0 (I.blk 0 rfl)) ?_)))))
 obtain ⟨i, a3, hm⟩ := gx_bind hm
 refine wC 55 #[.slice E a.Routes.length A] ((c_l_toRouteS N a.Routes E A (aq.mem0 I) a3).mono ?_)
 rintro e_ bd ⟨d, c, a8, rfl, ax, ah⟩
 have an := I.call ah
 refine ⟨_, rfl, ?_⟩
 refine wR 1 [(1, pB x 0), (2, pB y 0), (3, pB j 0), (6, .slice d i.length c), (7, pB j 0)] bd (wS false 1 0 (.slice d i.length c) 2 [.slice d i.length c, .slice none 0 0, .slice none 0 0, .slice none 0 0] an rfl ?_)
 intro O J
 refine W_nil (N_then (G_seq (G_region (wR 1 [(1, pB x 0), (2, pB y 0), (3, pB j 0), (8, pB x 1)] O (wV (.slice F a.Enabled.length B) O (eL false 1 1 (J.blk 0 rfl)) ?_)))))
 obtain ⟨n, a4, hm⟩ := gx_bind hm
 refine wC 56 #[.slice F a.Enabled.length B] ((c_l_toBoolS O a.Enabled F B (ar.mem0 J) a4).mono ?_)
 rintro e_ be ⟨h, f, a9, rfl, ay, ai⟩
 have ao := J.call ai
 refine ⟨_, rfl, ?_⟩
 refine wR 1 [(1, pB x 0), (2, pB y 0), (3, pB j 0), (10, .slice h n.length f), (11, pB j 1)] be (wS false 1 1 (.slice h n.length f) 2 [.slice d i.length c, .slice h n.length f, .slice none 0 0, .slice none 0 0] ao rfl ?_)
 intro P K
 refine W_nil (N_then (G_seq (G_region (wR 1 [(1, pB x 0), (2, pB y 0), (3, pB j 0), (12, pB x 2)] P (wV (.slice G a.Raised.length C) P (eL false 1 2 (K.blk 0 rfl)) ?_)))))
 obtain ⟨u, a5, hm⟩ := gx_bind hm
 refine wC 56 #[.slice G a.Raised.length C] ((c_l_toBoolS P a.Raised G C (au.mem0 K) a5).mono ?_)
 rintro e_ bf ⟨m, l, ba, rfl, az, aj⟩
 have ap := K.call aj
 refine ⟨_, rfl, ?_⟩
 refine wR 1 [(1, pB x 0), (2, pB y 0), (3, pB j 0), (14, .slice m u.length l), (15, pB j 2)] bf (wS false 1 2 (.slice m u.length l) 2 [.slice d i.length c, .slice h n.length f, .slice m u.length l, .slice none 0 0] ap rfl ?_)
 intro Q L
 refine W_nil (N_then (G_seq (G_region (wR 1 [(2, pB y 0), (3, pB j 0), (16, pB x 3)] Q (wV (.slice H a.Cpus.length D) Q (eL false 1 3 (L.blk 0 rfl)) ?_)))))
 obtain ⟨z, a0, hm⟩ := gx_bind hm
 refine wC 57 #[.slice H a.Cpus.length D] ((c_l_toInterfaceS Q a.Cpus H D (av.mem0 L) a0).mono ?_)
 rintro e_ bb ⟨t, q, a6, a7, rfl, aw, ag⟩
 have ak := L.call ag
 refine ⟨_, rfl, ?_⟩
 refine wR 1 [(2, pB y 0), (3, pB j 0), (18, .slice t z.length q), (19, pB j 3)] bb (wS false 1 3 (.slice t z.length q) 2 [.slice d i.length c, .slice h n.length f, .slice m u.length l, .slice t z.length q] ak rfl ?_)
 intro bc R
 refine W_nil (N_then (G_seq (G_region (wV (.agg #[.slice d i.length c, .slice h n.length f, .slice m u.length l, .slice t z.length q]) bc (eL true 4 0 (R.blk 2 rfl)) (wS true 4 0 (.agg #[.slice d i.length c, .slice h n.length f, .slice m u.length l, .slice t z.length q]) 1 [.slice d i.length c, .slice h n.length f, .slice m u.length l, .slice t z.length q] R rfl ?_)))))
 intro bg S
 refine W_nil (N_then (G_ret ?_))
 obtain rfl := Option.some.inj hm
 exact N_ret [.agg #[.slice d i.length c, .slice h n.length f, .slice m u.length l, .slice t z.length q]] (RVs_cons (RV_cell (g := true) (k := 4) (b := y) (off := 0) (cs := [.slice d i.length c, .slice h n.length f, .slice m u.length l, .slice t z.length q]) (e := 32) (fr := (0, 0)) (v := .agg #[.slice d i.length c, .slice h n.length f, .slice m u.length l, .slice t z.length q]) (S.blk 1 (b := y) (o := .cells ⟨[.slice d i.length c, .slice h n.length f, .slice m u.length l, .slice t z.length q]⟩ 32 (0, 0)) (by kernel_rfl)) (by kernel_rfl) (by kernel_rfl) (by kernel_rfl)) RVs_nil) (⟨d, c, a8, h, f, a9, m, l, ba, t, q, a6, a7, rfl, ax, ay, az, aw, S.pk [3, 4, 5, 6, 7]⟩)
theorem c_s_l1In (w : World) (b : Int) (d : Int) (c : Int) {r : Bool} (hm : M.s_l1In b d c = some r) :
  Calls Tryz.prog 124 #[iv b, iv d, iv c] w fun e w' => e = .returned (.bool r) ∧ Mem [] w w' [] := by
 unfold M.s_l1In at hm
 refine cE Tryz.func124 ?_
 have M0 := Mem.refl [] w
 refine G_seq (G_region (wR 1 [(0, iv b), (1, iv d), (2, iv c)] w (W_nil (N_then (G_seq ?_)))))
 obtain ⟨g, k, j⟩ := gx_bind hm
 refine G_meet (fun a w' => Mem [] w w' [] ∧ Sat Tryz.f124.ntmps [(6, .bool g)] a) ?_ ?_
 ·have hm := k
  refine G_region (wR 4 [(0, iv b), (2, iv c), (10, .bool (decide (b ≥ d)))] w ?_)
  rcases gx_bif hm with ⟨f, hm⟩ | ⟨f, hm⟩
  ·refine wK 10 true f (wR 5 [(6, .bool (decide (b ≤ c)))] w (W_nil ?_))
   obtain rfl := Option.some.inj hm
   exact N_meet fun a ha => ⟨M0.pk [], ha.s⟩
  refine wK 10 false f (wR 5 [(6, .bool false)] w (W_nil ?_))
  obtain rfl := Option.some.inj hm
  exact N_meet fun a ha => ⟨M0.pk [], ha.s⟩
 intro l m ⟨h, i⟩
 refine N_use i ?_
 have hm := j
 refine N_then (G_ret ?_)
 obtain rfl := Option.some.inj hm
 exact N_ret [.bool g] (rC RVs_nil) (⟨rfl, h.pk []⟩)
theorem c_s_l6Prio (w : World) (a : Int) {r : Bool} (hm : M.s_l6Prio a = some r) :
  Calls Tryz.prog 150 #[iv a] w fun e w' => e = .returned (.bool r) ∧ Mem [] w w' [] := by
 unfold M.s_l6Prio at hm
 refine cE Tryz.func150 ?_
 have M0 := Mem.refl [] w
 refine G_seq (G_region (wR 1 [(0, iv a)] w (W_nil (N_then (G_seq (G_region (wR 1 [(3, iv a)] w ?_)))))))
 obtain ⟨b, f, hm⟩ := gx_bind hm
 refine wC 124 #[iv a, iv 0, iv 15] ((c_s_l1In w a 0 15 f).mono ?_)
 rintro e_ g ⟨rfl, c⟩
 have d := M0.call0 c
 refine ⟨_, rfl, ?_⟩
 refine wR 1 [(2, .bool b)] g (W_nil (N_then (G_ret ?_)))
 obtain rfl := Option.some.inj hm
 exact N_ret [.bool b] (rC RVs_nil) (⟨rfl, d.pk []⟩)
theorem c_s_l21Routes (w : World) (d : List Route) (b : Option Addr) (g : Nat) (i : rdS encRoute w d b g) (f : Int) {r : Bool} (hm : M.s_l21Routes d f = some r) :
  Calls Tryz.prog 99 #[.slice b d.length g, iv f] w fun e w' => e = .returned (.bool r) ∧ Mem [] w w' [] := by
 unfold M.s_l21Routes at hm
 refine cE Tryz.func99 ?_
 have M0 := Mem.refl [] w
 refine G_seq (G_region (wR 1 [(0, .slice b d.length g), (1, iv f)] w (W_nil (N_then (G_seq (G_seq (G_region (wR 1 [(0, .slice b d.length g), (1, iv f), (5, iv 0)] w (W_nil (N_then ?_))))))))))
 obtain ⟨ab, Z, B⟩ := gx_bind hm
 refine G_meet (fun a w' => ∃ (D : Unit), ab = .inl D ∧ Mem [] w w' [] ∧ Sat Tryz.f99.ntmps [(0, .slice b d.length g), (1, iv f)] a) ?_ ?_
 ·refine G_block (G_while (σ := Int) (ρ := (Unit) ⊕ (Bool)) (fun c a w' => Mem [] w w' [] ∧ Sat Tryz.f99.ntmps [(0, .slice b d.length g), (1, iv f), (5, iv c)] a) Z (fun a ha => ⟨M0.pk [], ha.s⟩) ?_)
  clear hm
  intro c al hm C ag j ⟨k, O⟩
  refine G_use O (G_seq (G_seq (G_region (wR 4 [(0, .slice b d.length g), (1, iv f), (5, iv c), (9, .bool (decide (c < (d.length : Int))))] j (W_nil (N_then ?_))))))
  rcases gx_bif hm with ⟨n, hm⟩ | ⟨n, hm⟩
  ·refine gT n (G_skip (N_then (G_seq (G_block (G_seq ?_)))))
   obtain ⟨aa, U, S⟩ := gx_bind hm
   refine G_meet (fun a w' => Mem [] w w' [] ∧ Sat Tryz.f99.ntmps [(0, .slice b d.length g), (1, iv f), (5, iv c), (29, .bool aa)] a) ?_ ?_
   ·have hm := U
    refine G_region (wR 2 [(0, .slice b d.length g), (1, iv f), (5, iv c), (12, .slice b d.length g), (13, iv c)] j ?_)
    obtain ⟨y, u, hm⟩ := gx_bind hm
    refine wV (elemP b (c.toNat * 2)) j (eI (i.mem0 k) rfl u) (wV (elemP b (c.toNat * 2 + 0)) j (eF 0 (c.toNat * 2) 0 (i.mem0 k) u) (wV (iv y.Priority) j (eE false 1 0 (c.toNat * 2 + 0) (i.mem0 k) u) ?_))
    obtain ⟨ac, W, hm⟩ := gx_bind hm
    refine wC 150 #[iv y.Priority] ((c_s_l6Prio j y.Priority W).mono ?_)
    rintro e_ h ⟨rfl, H⟩
    have l := k.call0 H
    refine ⟨_, rfl, ?_⟩
    refine wR 2 [(0, .slice b d.length g), (1, iv f), (5, iv c), (19, .bool (!ac))] h ?_
    rcases gx_bif hm with ⟨o, hm⟩ | ⟨o, hm⟩
    ·refine wK 19 true o (wR 10 [(0, .slice b d.length g), (1, iv f), (5, iv c), (29, .bool true)] h (W_nil ?_))
     obtain rfl := Option.some.inj hm
     exact N_meet fun a ha => ⟨l.pk [], ha.s⟩
    refine wK 19 false o (wR 2 [(0, .slice b d.length g), (1, iv f), (5, iv c), (19, .bool false), (20, .slice b d.length g), (21, iv c)] h ?_)
    obtain ⟨m, v, hm⟩ := gx_bind hm
    refine wV (elemP b (c.toNat * 2)) h (eI (i.mem0 l) rfl v) (wV (elemP b (c.toNat * 2 + 1)) h (eF 1 (c.toNat * 2) 1 (i.mem0 l) v) (wV (iv m.Target) h (eE false 1 1 (c.toNat * 2 + 1) (i.mem0 l) v) (wR 2 [(0, .slice b d.length g), (1, iv f), (5, iv c), (19, .bool false), (24, iv m.Target), (26, iv (w64 (f - 1)))] h ?_)))
    obtain ⟨ad, X, hm⟩ := gx_bind hm
    refine wC 124 #[iv m.Target, iv 0, iv (w64 (f - 1))] ((c_s_l1In h m.Target 0 (w64 (f - 1)) X).mono ?_)
    rintro e_ af ⟨rfl, I⟩
    have K := l.call0 I
    refine ⟨_, rfl, ?_⟩
    refine wR 2 [(0, .slice b d.length g), (1, iv f), (5, iv c), (29, .bool (!ad))] af (W_nil ?_)
    obtain rfl := Option.some.inj hm
    exact N_meet fun a ha => ⟨K.pk [], ha.s⟩
   intro ah F ⟨z, P⟩
   refine N_use P ?_
   have hm := S
   refine N_then ?_
   rcases gx_bif hm with ⟨q, hm⟩ | ⟨q, hm⟩
   ·refine gT q (G_seq (G_region (wR 1 [(4, .bool false)] F (W_nil (N_then (G_ret (N_block_ret (N_then_ret (N_then_ret ?_)))))))))
    obtain rfl := Option.some.inj hm
    obtain rfl := C _ rfl
    have hm := B; simp only [Sum.elim_inr] at hm
    refine N_block_ret (N_meet_ret (N_then_ret ?_))
    obtain rfl := Option.some.inj hm
    exact N_ret [.bool false] (rC RVs_nil) (⟨rfl, z.pk []⟩)
   refine gF q (G_skip (N_block (N_then (G_region (wR 3 [(0, .slice b d.length g), (1, iv f), (5, iv (w64 (c + 1)))] F (W_nil ?_))))))
   obtain rfl := Option.some.inj hm
   exact N_loop fun a ha => ⟨_, rfl, z.pk [], ha.s⟩
  refine gF n (G_exit (N_then_exit (N_then_exit (N_block_eq ?_))))
  obtain rfl := Option.some.inj hm
  obtain rfl := C _ rfl
  exact N_meet fun a ha => ⟨_, rfl, k.pk [], ha.s⟩
 intro ai G ⟨D, hout_, L, Q⟩
 refine N_use Q ?_
 subst hout_
 have hm := B; simp only [Sum.elim_inl] at hm
 refine N_then (G_seq ?_)
 obtain ⟨E, V, T⟩ := gx_bind hm
 refine G_meet (fun a w' => Mem [] w w' [] ∧ Sat Tryz.f99.ntmps [(4, .bool E)] a) ?_ ?_
 ·have hm := V
  refine G_region (wR 1 [(0, .slice b d.length g), (30, iv f)] G ?_)
  obtain ⟨ae, Y, hm⟩ := gx_bind hm
  refine wC 124 #[iv f, iv 1, iv 2] ((c_s_l1In G f 1 2 Y).mono ?_)
  rintro e_ x ⟨rfl, J⟩
  have A := L.call0 J
  refine ⟨_, rfl, ?_⟩
  refine wR 1 [(0, .slice b d.length g), (32, .bool ae)] x ?_
  rcases gx_bif hm with ⟨t, hm⟩ | ⟨t, hm⟩
  ·refine wK 32 true t (wR 5 [(4, .bool ((d.length : Int) == 8))] x (W_nil ?_))
   obtain rfl := Option.some.inj hm
   exact N_meet fun a ha => ⟨A.pk [], ha.s⟩
  refine wK 32 false t (wR 5 [(4, .bool false)] x (W_nil ?_))
  obtain rfl := Option.some.inj hm
  exact N_meet fun a ha => ⟨A.pk [], ha.s⟩
 intro aj ak ⟨N, R⟩
 refine N_use R ?_
 have hm := T
 refine N_then (G_ret ?_)
 obtain rfl := Option.some.inj hm
 exact N_ret [.bool E] (rC RVs_nil) (⟨rfl, N.pk []⟩)
theorem c_s_l6Irq (w : World) (a : Int) {r : Bool} (hm : M.s_l6Irq a = some r) :
  Calls Tryz.prog 143 #[iv a] w fun e w' => e = .returned (.bool r) ∧ Mem [] w w' [] := by
 unfold M.s_l6Irq at hm
 refine cE Tryz.func143 ?_
 have M0 := Mem.refl [] w
 refine G_seq (G_region (wR 1 [(0, iv a)] w (W_nil (N_then (G_seq (G_region (wR 1 [(3, iv a)] w ?_)))))))
 obtain ⟨b, f, hm⟩ := gx_bind hm
 refine wC 124 #[iv a, iv 0, iv 7] ((c_s_l1In w a 0 7 f).mono ?_)
 rintro e_ g ⟨rfl, c⟩
 have d := M0.call0 c
 refine ⟨_, rfl, ?_⟩
 refine wR 1 [(2, .bool b)] g (W_nil (N_then (G_ret ?_)))
 obtain rfl := Option.some.inj hm
 exact N_ret [.bool b] (rC RVs_nil) (⟨rfl, d.pk []⟩)
theorem c_s_l8Find (w : World) (d : List Slot) (c : Option Addr) (f : Nat) (j : rdS encSlot w d c f) (g : Int) {r : Int} (hm : M.s_l8Find d g = some r) :
  Calls Tryz.prog 192 #[.slice c d.length f, iv g] w fun e w' => e = .returned (iv r) ∧ Mem [] w w' [] := by
 unfold M.s_l8Find at hm
 refine cE Tryz.func192 ?_
 have M0 := Mem.refl [] w
 refine G_seq (G_region (wR 1 [(0, .slice c d.length f), (1, iv g)] w (W_nil (N_then (G_seq (G_seq (G_region (wR 1 [(0, .slice c d.length f), (1, iv g), (5, iv 0)] w (W_nil (N_then ?_))))))))))
 obtain ⟨I, G, t⟩ := gx_bind hm
 refine G_meet (fun a w' => ∃ (v : Unit), I = .inl v ∧ Mem [] w w' [] ∧ Sat Tryz.f192.ntmps [] a) ?_ ?_
 ·refine G_block (G_while (σ := Int) (ρ := (Unit) ⊕ (Int)) (fun b a w' => Mem [] w w' [] ∧ Sat Tryz.f192.ntmps [(0, .slice c d.length f), (1, iv g), (5, iv b)] a) G (fun a ha => ⟨M0.pk [], ha.s⟩) ?_)
  clear hm
  intro b O hm u K h ⟨i, B⟩
  refine G_use B (G_seq (G_seq (G_region (wR 4 [(0, .slice c d.length f), (1, iv g), (5, iv b), (9, .bool (decide (b < (d.length : Int))))] h (W_nil (N_then ?_))))))
  rcases gx_bif hm with ⟨k, hm⟩ | ⟨k, hm⟩
  ·refine gT k (G_skip (N_then (G_seq (G_block (G_seq ?_)))))
   obtain ⟨H, F, E⟩ := gx_bind hm
   refine G_meet (fun a w' => Mem [] w w' [] ∧ Sat Tryz.f192.ntmps [(0, .slice c d.length f), (1, iv g), (5, iv b), (26, .bool H)] a) ?_ ?_
   ·have hm := F
    refine G_region (wR 2 [(0, .slice c d.length f), (1, iv g), (5, iv b), (12, .slice c d.length f), (13, iv b)] h ?_)
    obtain ⟨y, n, hm⟩ := gx_bind hm
    refine wV (elemP c (b.toNat * 3)) h (eI (j.mem0 i) rfl n) (wV (elemP c (b.toNat * 3 + 0)) h (eF 0 (b.toNat * 3) 0 (j.mem0 i) n) (wV (iv y.State) h (eE false 1 0 (b.toNat * 3 + 0) (j.mem0 i) n) (wR 2 [(0, .slice c d.length f), (1, iv g), (5, iv b), (18, .bool (y.State != 0))] h ?_)))
    rcases gx_bif hm with ⟨l, hm⟩ | ⟨l, hm⟩
    ·refine wK 18 true l (wR 2 [(0, .slice c d.length f), (1, iv g), (5, iv b), (18, .bool true), (19, .slice c d.length f), (20, iv b)] h ?_)
     obtain ⟨z, o, hm⟩ := gx_bind hm
     refine wV (elemP c (b.toNat * 3)) h (eI (j.mem0 i) rfl o) (wV (elemP c (b.toNat * 3 + 1)) h (eF 1 (b.toNat * 3) 1 (j.mem0 i) o) (wV (iv z.Irq) h (eE false 1 1 (b.toNat * 3 + 1) (j.mem0 i) o) (wR 3 [(0, .slice c d.length f), (1, iv g), (5, iv b), (26, .bool (z.Irq == g))] h (W_nil ?_))))
     obtain rfl := Option.some.inj hm
     exact N_meet fun a ha => ⟨i.pk [], ha.s⟩
    refine wK 18 false l (wR 8 [(0, .slice c d.length f), (1, iv g), (5, iv b), (26, .bool false)] h (W_nil ?_))
    obtain rfl := Option.some.inj hm
    exact N_meet fun a ha => ⟨i.pk [], ha.s⟩
   intro L x ⟨q, C⟩
   refine N_use C ?_
   have hm := E
   refine N_then ?_
   rcases gx_bif hm with ⟨m, hm⟩ | ⟨m, hm⟩
   ·refine gT m (G_seq (G_region (wR 2 [(4, iv b)] x (W_nil (N_then (G_ret (N_block_ret (N_then_ret (N_then_ret ?_)))))))))
    obtain rfl := Option.some.inj hm
    obtain rfl := u _ rfl
    have hm := t; simp only [Sum.elim_inr] at hm
    refine N_block_ret (N_meet_ret (N_then_ret ?_))
    obtain rfl := Option.some.inj hm
    exact N_ret [iv b] (rC RVs_nil) (⟨rfl, q.pk []⟩)
   refine gF m (G_skip (N_block (N_then (G_region (wR 3 [(0, .slice c d.length f), (1, iv g), (5, iv (w64 (b + 1)))] x (W_nil ?_))))))
   obtain rfl := Option.some.inj hm
   exact N_loop fun a ha => ⟨_, rfl, q.pk [], ha.s⟩
  refine gF k (G_exit (N_then_exit (N_then_exit (N_block_eq ?_))))
  obtain rfl := Option.some.inj hm
  obtain rfl := u _ rfl
  exact N_meet fun a ha => ⟨_, rfl, i.pk [], ha.s⟩
 intro N J ⟨v, hout_, A, D⟩
 refine N_use D ?_
 subst hout_
 have hm := t; simp only [Sum.elim_inl] at hm
 refine N_then (G_seq (G_region (wR 1 [(4, iv (-1))] J (W_nil (N_then (G_ret ?_))))))
 obtain rfl := Option.some.inj hm
 exact N_ret [iv (-1)] (rC RVs_nil) (⟨rfl, A.pk []⟩)
theorem c_s_l8Less (w : World) (b : Int) (c : Int) (d : Int) (f : Int) {r : Bool} (hm : M.s_l8Less b c d f = some r) :
  Calls Tryz.prog 171 #[iv b, iv c, iv d, iv f] w fun e w' => e = .returned (.bool r) ∧ Mem [] w w' [] := by
 unfold M.s_l8Less at hm
 refine cE Tryz.func171 ?_
 have M0 := Mem.refl [] w
 refine G_seq (G_region (wR 1 [(0, iv b), (1, iv c), (2, iv d), (3, iv f)] w (W_nil (N_then (G_seq ?_)))))
 obtain ⟨i, m, l⟩ := gx_bind hm
 refine G_meet (fun a w' => Mem [] w w' [] ∧ Sat Tryz.f171.ntmps [(8, .bool i)] a) ?_ ?_
 ·have hm := m
  refine G_region (wR 4 [(0, iv b), (1, iv c), (2, iv d), (3, iv f), (12, .bool (decide (b < d)))] w ?_)
  rcases gx_bif hm with ⟨g, hm⟩ | ⟨g, hm⟩
  ·refine wK 12 true g (wR 10 [(8, .bool true)] w (W_nil ?_))
   obtain rfl := Option.some.inj hm
   exact N_meet fun a ha => ⟨M0.pk [], ha.s⟩
  refine wK 12 false g (wR 4 [(1, iv c), (3, iv f), (12, .bool false), (16, .bool (b == d))] w ?_)
  rcases gx_bif hm with ⟨h, hm⟩ | ⟨h, hm⟩
  ·refine wK 16 true h (wR 6 [(8, .bool (decide (c < f)))] w (W_nil ?_))
   obtain rfl := Option.some.inj hm
   exact N_meet fun a ha => ⟨M0.pk [], ha.s⟩
  refine wK 16 false h (wR 6 [(8, .bool false)] w (W_nil ?_))
  obtain rfl := Option.some.inj hm
  exact N_meet fun a ha => ⟨M0.pk [], ha.s⟩
 intro n o ⟨j, k⟩
 refine N_use k ?_
 have hm := l
 refine N_then (G_ret ?_)
 obtain rfl := Option.some.inj hm
 exact N_ret [.bool i] (rC RVs_nil) (⟨rfl, j.pk []⟩)
theorem c_s_l8Good (w : World) (b : List Slot) (c : Option Addr) (d : Nat) (n : rdS encSlot w b c d) {r : Bool} (hm : M.s_l8Good b = some r) :
  Calls Tryz.prog 234 #[.slice c b.length d] w fun e w' => e = .returned (.bool r) ∧ Mem [] w w' [] := by
 unfold M.s_l8Good at hm
 refine cE Tryz.func234 ?_
 have M0 := Mem.refl [] w
 refine G_seq (G_region (wR 1 [(0, .slice c b.length d)] w (W_nil (N_then (G_seq (G_seq (G_region (wR 1 [(0, .slice c b.length d), (3, iv 0)] w (W_nil (N_then ?_))))))))))
 obtain ⟨ao, al, F⟩ := gx_bind hm
 refine G_meet (fun a w' => ∃ (L : Unit), ao = .inl L ∧ Mem [] w w' [] ∧ Sat Tryz.f234.ntmps [(0, .slice c b.length d)] a) ?_ ?_
 ·refine G_block (G_while (σ := Int) (ρ := (Unit) ⊕ (Bool)) (fun f a w' => Mem [] w w' [] ∧ Sat Tryz.f234.ntmps [(0, .slice c b.length d), (3, iv f)] a) al (fun a ha => ⟨M0.pk [], ha.s⟩) ?_)
  clear hm
  intro f a7 hm G a0 o ⟨m, Y⟩
  refine G_use Y (G_seq (G_seq (G_region (wR 4 [(0, .slice c b.length d), (3, iv f), (8, .bool (decide (f < (b.length : Int))))] o (W_nil (N_then ?_))))))
  rcases gx_bif hm with ⟨u, hm⟩ | ⟨u, hm⟩
  ·refine gT u (G_skip (N_then (G_seq (G_block (G_seq (G_region (wR 2 [(0, .slice c b.length d), (3, iv f), (11, .slice c b.length d), (12, iv f)] o ?_)))))))
   obtain ⟨g, K, hm⟩ := gx_bind hm
   refine wV (elemP c (f.toNat * 3)) o (eI (n.mem0 m) rfl K) (wV (.agg #[iv g.State, iv g.Irq, iv g.Priority]) o (eE true 3 0 (f.toNat * 3) (n.mem0 m) K) (wN (.cells ⟨[iv 0, iv 0, iv 0]⟩ 117 (0, 0)) m ?_))
   intro h a6 T
   refine wS true 3 0 (.agg #[iv g.State, iv g.Irq, iv g.Priority]) 0 [iv g.State, iv g.Irq, iv g.Priority] T rfl ?_
   intro H I
   refine W_nil (N_then (G_seq (G_seq ?_)))
   obtain ⟨am, ae, ac⟩ := gx_bind hm
   refine G_meet (fun a w' => Mem [] w w' [[(h, .cells ⟨[iv g.State, iv g.Irq, iv g.Priority]⟩ 117 (0, 0))]] ∧ Sat Tryz.f234.ntmps [(0, .slice c b.length d), (3, iv f), (4, pB h 0), (30, .bool am)] a) ?_ ?_
   ·have hm := ae
    refine G_region (wR 1 [(0, .slice c b.length d), (3, iv f), (4, pB h 0), (15, pB h 0)] H (wV (iv g.State) H (eL false 1 0 (I.blk 0 rfl)) ?_))
    obtain ⟨ap, ag, hm⟩ := gx_bind hm
    refine wC 124 #[iv g.State, iv 0, iv 3] ((c_s_l1In H g.State 0 3 ag).mono ?_)
    rintro e_ k ⟨rfl, O⟩
    have q := I.call0 O
    refine ⟨_, rfl, ?_⟩
    refine wR 2 [(0, .slice c b.length d), (3, iv f), (4, pB h 0), (19, .bool (!ap))] k ?_
    rcases gx_bif hm with ⟨v, hm⟩ | ⟨v, hm⟩
    ·refine wK 19 true v (wR 11 [(0, .slice c b.length d), (3, iv f), (4, pB h 0), (30, .bool true)] k (W_nil ?_))
     obtain rfl := Option.some.inj hm
     exact N_meet fun a ha => ⟨q.pk [0], ha.s⟩
    refine wK 19 false v (wR 1 [(0, .slice c b.length d), (3, iv f), (4, pB h 0), (19, .bool false), (20, pB h 1)] k (wV (iv g.Irq) k (eL false 1 1 (q.blk 0 rfl)) ?_))
    obtain ⟨aq, ah, hm⟩ := gx_bind hm
    refine wC 143 #[iv g.Irq] ((c_s_l6Irq k g.Irq ah).mono ?_)
    rintro e_ l ⟨rfl, P⟩
    have t := q.call0 P
    refine ⟨_, rfl, ?_⟩
    refine wR 3 [(0, .slice c b.length d), (3, iv f), (4, pB h 0), (25, .bool (!aq))] l ?_
    rcases gx_bif hm with ⟨x, hm⟩ | ⟨x, hm⟩
    ·refine wK 25 true x (wR 5 [(0, .slice c b.length d), (3, iv f), (4, pB h 0), (30, .bool true)] l (W_nil ?_))
     obtain rfl := Option.some.inj hm
     exact N_meet fun a ha => ⟨t.pk [0], ha.s⟩
    refine wK 25 false x (wR 1 [(0, .slice c b.length d), (3, iv f), (4, pB h 0), (25, .bool false), (26, pB h 2)] l (wV (iv g.Priority) l (eL false 1 2 (t.blk 0 rfl)) ?_))
    obtain ⟨ar, ai, hm⟩ := gx_bind hm
    refine wC 150 #[iv g.Priority] ((c_s_l6Prio l g.Priority ai).mono ?_)
    rintro e_ aw ⟨rfl, Q⟩
    have U := t.call0 Q
    refine ⟨_, rfl, ?_⟩
    refine wR 2 [(0, .slice c b.length d), (3, iv f), (4, pB h 0), (30, .bool (!ar))] aw (W_nil ?_)
    obtain rfl := Option.some.inj hm
    exact N_meet fun a ha => ⟨U.pk [0], ha.s⟩
   intro a3 i ⟨j, Z⟩
   refine N_use Z ?_
   have hm := ac
   refine N_then ?_
   rcases gx_bif hm with ⟨y, hm⟩ | ⟨y, hm⟩
   ·refine gT y (G_seq (G_region (wR 1 [(2, .bool false)] i (W_nil (N_then (G_ret (N_then_ret (N_block_ret (N_then_ret (N_then_ret ?_))))))))))
    obtain rfl := Option.some.inj hm
    obtain rfl := G _ rfl
    have hm := F; simp only [Sum.elim_inr] at hm
    refine N_block_ret (N_meet_ret (N_then_ret ?_))
    obtain rfl := Option.some.inj hm
    exact N_ret [.bool false] (rC RVs_nil) (⟨rfl, j.pk []⟩)
   refine gF y (G_skip (N_then (G_seq ?_)))
   obtain ⟨an, af, ad⟩ := gx_bind hm
   refine G_meet (fun a w' => Mem [] w w' [] ∧ Sat Tryz.f234.ntmps [(0, .slice c b.length d), (3, iv f), (56, .bool an)] a) ?_ ?_
   ·have hm := af
    refine G_region (wR 1 [(0, .slice c b.length d), (3, iv f), (4, pB h 0), (31, pB h 0)] i (wV (iv g.State) i (eL false 1 0 (j.blk 0 rfl)) (wR 2 [(0, .slice c b.length d), (3, iv f), (4, pB h 0), (34, .bool (g.State == 0))] i ?_)))
    rcases gx_bif hm with ⟨z, hm⟩ | ⟨z, hm⟩
    ·refine wK 34 true z (wR 1 [(0, .slice c b.length d), (3, iv f), (4, pB h 0), (34, .bool true), (35, pB h 1)] i (wV (iv g.Irq) i (eL false 1 1 (j.blk 0 rfl)) (wR 2 [(0, .slice c b.length d), (3, iv f), (4, pB h 0), (34, .bool true), (38, .bool (g.Irq != 0))] i ?_)))
     rcases gx_bif hm with ⟨A, hm⟩ | ⟨A, hm⟩
     ·refine wK 38 true A (wR 18 [(0, .slice c b.length d), (3, iv f), (56, .bool true)] i (W_nil ?_))
      obtain rfl := Option.some.inj hm
      exact N_meet fun a ha => ⟨j.pk [], ha.s⟩
     refine wK 38 false A (wR 1 [(0, .slice c b.length d), (3, iv f), (4, pB h 0), (34, .bool true), (38, .bool false), (39, pB h 2)] i (wV (iv g.Priority) i (eL false 1 2 (j.blk 0 rfl)) (wR 4 [(0, .slice c b.length d), (3, iv f), (4, pB h 0), (44, .bool (g.Priority != 0))] i ?_)))
     rcases gx_bif hm with ⟨B, hm⟩ | ⟨B, hm⟩
     ·refine wK 44 true B (wR 12 [(0, .slice c b.length d), (3, iv f), (56, .bool true)] i (W_nil ?_))
      obtain rfl := Option.some.inj hm
      exact N_meet fun a ha => ⟨j.pk [], ha.s⟩
     refine wK 44 false B (wR 1 [(0, .slice c b.length d), (3, iv f), (4, pB h 0), (44, .bool false), (45, pB h 0)] i (wV (iv g.State) i (eL false 1 0 (j.blk 0 rfl)) (wR 2 [(0, .slice c b.length d), (3, iv f), (4, pB h 0), (44, .bool false), (48, .bool (g.State != 0))] i ?_)))
     rcases gx_bif hm with ⟨C, hm⟩ | ⟨C, hm⟩
     ·refine wK 48 true C (wR 2 [(0, .slice c b.length d), (3, iv f), (44, .bool false), (48, .bool true), (49, .slice c b.length d), (50, pB h 1)] i (wV (iv g.Irq) i (eL false 1 1 (j.blk 0 rfl)) ?_))
      obtain ⟨au, aj, hm⟩ := gx_bind hm
      refine wC 192 #[.slice c b.length d, iv g.Irq] ((c_s_l8Find i b c d (n.mem0 j) g.Irq aj).mono ?_)
      rintro e_ ax ⟨rfl, R⟩
      have V := j.call0 R
      refine ⟨_, rfl, ?_⟩
      refine wR 4 [(0, .slice c b.length d), (3, iv f), (56, .bool (au != f))] ax (W_nil ?_)
      obtain rfl := Option.some.inj hm
      exact N_meet fun a ha => ⟨V.pk [], ha.s⟩
     refine wK 48 false C (wR 8 [(0, .slice c b.length d), (3, iv f), (56, .bool false)] i (W_nil ?_))
     obtain rfl := Option.some.inj hm
     exact N_meet fun a ha => ⟨j.pk [], ha.s⟩
    refine wK 34 false z (wR 11 [(0, .slice c b.length d), (3, iv f), (4, pB h 0), (44, .bool false), (45, pB h 0)] i (wV (iv g.State) i (eL false 1 0 (j.blk 0 rfl)) (wR 2 [(0, .slice c b.length d), (3, iv f), (4, pB h 0), (44, .bool false), (48, .bool (g.State != 0))] i ?_)))
    rcases gx_bif hm with ⟨D, hm⟩ | ⟨D, hm⟩
    ·refine wK 48 true D (wR 2 [(0, .slice c b.length d), (3, iv f), (44, .bool false), (48, .bool true), (49, .slice c b.length d), (50, pB h 1)] i (wV (iv g.Irq) i (eL false 1 1 (j.blk 0 rfl)) ?_))
     obtain ⟨av, ak, hm⟩ := gx_bind hm
     refine wC 192 #[.slice c b.length d, iv g.Irq] ((c_s_l8Find i b c d (n.mem0 j) g.Irq ak).mono ?_)
     rintro e_ ay ⟨rfl, S⟩
     have W := j.call0 S
     refine ⟨_, rfl, ?_⟩
     refine wR 4 [(0, .slice c b.length d), (3, iv f), (56, .bool (av != f))] ay (W_nil ?_)
     obtain rfl := Option.some.inj hm
     exact N_meet fun a ha => ⟨W.pk [], ha.s⟩
    refine wK 48 false D (wR 8 [(0, .slice c b.length d), (3, iv f), (56, .bool false)] i (W_nil ?_))
    obtain rfl := Option.some.inj hm
    exact N_meet fun a ha => ⟨j.pk [], ha.s⟩
   intro a4 N ⟨J, aa⟩
   refine N_use aa ?_
   have hm := ad
   refine N_then ?_
   rcases gx_bif hm with ⟨E, hm⟩ | ⟨E, hm⟩
   ·refine gT E (G_seq (G_region (wR 1 [(2, .bool false)] N (W_nil (N_then (G_ret (N_block_ret (N_then_ret (N_then_ret ?_)))))))))
    obtain rfl := Option.some.inj hm
    obtain rfl := G _ rfl
    have hm := F; simp only [Sum.elim_inr] at hm
    refine N_block_ret (N_meet_ret (N_then_ret ?_))
    obtain rfl := Option.some.inj hm
    exact N_ret [.bool false] (rC RVs_nil) (⟨rfl, J.pk []⟩)
   refine gF E (G_skip (N_block (N_then (G_region (wR 3 [(0, .slice c b.length d), (3, iv (w64 (f + 1)))] N (W_nil ?_))))))
   obtain rfl := Option.some.inj hm
   exact N_loop fun a ha => ⟨_, rfl, J.pk [], ha.s⟩
  refine gF u (G_exit (N_then_exit (N_then_exit (N_block_eq ?_))))
  obtain rfl := Option.some.inj hm
  obtain rfl := G _ rfl
  exact N_meet fun a ha => ⟨_, rfl, m.pk [], ha.s⟩
 intro a5 az ⟨L, hout_, X, ab⟩
 refine N_use ab ?_
 subst hout_
 have hm := F; simp only [Sum.elim_inl] at hm
 refine N_then (G_seq (G_region (wR 4 [(2, .bool ((b.length : Int) == 4))] az (W_nil (N_then (G_ret ?_))))))
 obtain rfl := Option.some.inj hm
 exact N_ret [.bool ((b.length : Int) == 4)] (rC RVs_nil) (⟨rfl, X.pk []⟩)
theorem c_s_l9Waiting (w : World) (g : List Slot) (i : Option Addr) (h : Nat) (ac : rdS encSlot w g i h) (d : List Waiter) (c : Option Addr) (f : Nat) (m : rdS encWaiter w d c f) {r : Bool} (hm : M.s_l9Waiting g d = some r) :
  Calls Tryz.prog 189 #[.slice i g.length h, .slice c d.length f] w fun e w' => e = .returned (.bool r) ∧ Mem [] w w' [] := by
 unfold M.s_l9Waiting at hm
 refine cE Tryz.func189 ?_
 have M0 := Mem.refl [] w
 refine G_seq (G_region (wR 1 [(0, .slice i g.length h), (1, .slice c d.length f)] w (W_nil (N_then (G_seq (G_seq (G_region (wR 1 [(0, .slice i g.length h), (1, .slice c d.length f), (5, iv 0)] w (W_nil (N_then ?_))))))))))
 obtain ⟨bq, bl, x⟩ := gx_bind hm
 refine G_meet (fun a w' => ∃ (ag : Unit), bq = .inl ag ∧ Mem [] w w' [] ∧ Sat Tryz.f189.ntmps [(0, .slice i g.length h), (1, .slice c d.length f)] a) ?_ ?_
 ·refine G_block (G_while (σ := Int) (ρ := (Unit) ⊕ (Bool)) (fun b a w' => Mem [] w w' [] ∧ Sat Tryz.f189.ntmps [(0, .slice i g.length h), (1, .slice c d.length f), (5, iv b)] a) bl (fun a ha => ⟨M0.pk [], ha.s⟩) ?_)
  clear hm
  intro b cd hm y b1 Q ⟨U, ay⟩
  refine G_use ay (G_seq (G_seq ?_))
  obtain ⟨bn, bc, a8⟩ := gx_bind hm
  refine G_meet (fun a w' => Mem [] w w' [] ∧ Sat Tryz.f189.ntmps [(0, .slice i g.length h), (1, .slice c d.length f), (5, iv b), (15, .bool bn)] a) ?_ ?_
  ·have hm := bc
   refine G_region (wR 5 [(0, .slice i g.length h), (1, .slice c d.length f), (5, iv b), (12, .bool (decide (b < (d.length : Int))))] Q ?_)
   rcases gx_bif hm with ⟨C, hm⟩ | ⟨C, hm⟩
   ·refine wK 12 true C (wR 3 [(0, .slice i g.length h), (1, .slice c d.length f), (5, iv b), (15, .bool (decide (b ≤ 8)))] Q (W_nil ?_))
    obtain rfl := Option.some.inj hm
    exact N_meet fun a ha => ⟨U.pk [], ha.s⟩
   refine wK 12 false C (wR 3 [(0, .slice i g.length h), (1, .slice c d.length f), (5, iv b), (15, .bool false)] Q (W_nil ?_))
   obtain rfl := Option.some.inj hm
   exact N_meet fun a ha => ⟨U.pk [], ha.s⟩
  intro b2 R ⟨u, az⟩
  refine N_use az ?_
  have hm := a8
  refine N_then ?_
  rcases gx_bif hm with ⟨D, hm⟩ | ⟨D, hm⟩
  ·refine gT D (G_skip (N_then (G_seq (G_block (G_seq (G_region (wR 2 [(0, .slice i g.length h), (1, .slice c d.length f), (5, iv b), (18, .slice c d.length f), (19, iv b)] R ?_)))))))
   obtain ⟨k, af, hm⟩ := gx_bind hm
   refine wV (elemP c (b.toNat * 2)) R (eI (m.mem0 u) rfl af) (wV (.agg #[iv k.Irq, iv k.Priority]) R (eE true 2 0 (b.toNat * 2) (m.mem0 u) af) (wN (.cells ⟨[iv 0, iv 0]⟩ 142 (0, 0)) u ?_))
   intro j b9 aq
   refine wS true 2 0 (.agg #[iv k.Irq, iv k.Priority]) 0 [iv k.Irq, iv k.Priority] aq rfl ?_
   intro S V
   refine W_nil (N_then (G_seq (G_seq ?_)))
   obtain ⟨bo, bd, a9⟩ := gx_bind hm
   refine G_meet (fun a w' => Mem [] w w' [[(j, .cells ⟨[iv k.Irq, iv k.Priority]⟩ 142 (0, 0))]] ∧ Sat Tryz.f189.ntmps [(0, .slice i g.length h), (1, .slice c d.length f), (5, iv b), (6, pB j 0), (38, .bool bo)] a) ?_ ?_
   ·have hm := bd
    refine G_region (wR 1 [(0, .slice i g.length h), (1, .slice c d.length f), (5, iv b), (6, pB j 0), (22, pB j 0)] S (wV (iv k.Irq) S (eL false 1 0 (V.blk 0 rfl)) ?_))
    obtain ⟨bs, bg, hm⟩ := gx_bind hm
    refine wC 143 #[iv k.Irq] ((c_s_l6Irq S k.Irq bg).mono ?_)
    rintro e_ o ⟨rfl, am⟩
    have B := V.call0 am
    refine ⟨_, rfl, ?_⟩
    refine wR 2 [(0, .slice i g.length h), (1, .slice c d.length f), (5, iv b), (6, pB j 0), (26, .bool (!bs))] o ?_
    rcases gx_bif hm with ⟨E, hm⟩ | ⟨E, hm⟩
    ·refine wK 26 true E (wR 12 [(0, .slice i g.length h), (1, .slice c d.length f), (5, iv b), (6, pB j 0), (38, .bool true)] o (W_nil ?_))
     obtain rfl := Option.some.inj hm
     exact N_meet fun a ha => ⟨B.pk [0], ha.s⟩
    refine wK 26 false E (wR 1 [(0, .slice i g.length h), (1, .slice c d.length f), (5, iv b), (6, pB j 0), (26, .bool false), (27, pB j 1)] o (wV (iv k.Priority) o (eL false 1 1 (B.blk 0 rfl)) ?_))
    obtain ⟨bt, bh, hm⟩ := gx_bind hm
    refine wC 150 #[iv k.Priority] ((c_s_l6Prio o k.Priority bh).mono ?_)
    rintro e_ q ⟨rfl, an⟩
    have v := B.call0 an
    refine ⟨_, rfl, ?_⟩
    refine wR 3 [(0, .slice i g.length h), (1, .slice c d.length f), (5, iv b), (6, pB j 0), (32, .bool (!bt))] q ?_
    rcases gx_bif hm with ⟨F, hm⟩ | ⟨F, hm⟩
    ·refine wK 32 true F (wR 6 [(0, .slice i g.length h), (1, .slice c d.length f), (5, iv b), (6, pB j 0), (38, .bool true)] q (W_nil ?_))
     obtain rfl := Option.some.inj hm
     exact N_meet fun a ha => ⟨v.pk [0], ha.s⟩
    refine wK 32 false F (wR 2 [(0, .slice i g.length h), (1, .slice c d.length f), (5, iv b), (6, pB j 0), (32, .bool false), (33, .slice i g.length h), (34, pB j 0)] q (wV (iv k.Irq) q (eL false 1 0 (v.blk 0 rfl)) ?_))
    obtain ⟨bu, bi, hm⟩ := gx_bind hm
    refine wC 192 #[.slice i g.length h, iv k.Irq] ((c_s_l8Find q g i h (ac.mem0 v) k.Irq bi).mono ?_)
    rintro e_ bw ⟨rfl, ao⟩
    have ar := v.call0 ao
    refine ⟨_, rfl, ?_⟩
    refine wR 2 [(0, .slice i g.length h), (1, .slice c d.length f), (5, iv b), (6, pB j 0), (38, .bool (decide (bu ≥ 0)))] bw (W_nil ?_)
    obtain rfl := Option.some.inj hm
    exact N_meet fun a ha => ⟨ar.pk [0], ha.s⟩
   intro b3 bx ⟨W, a0⟩
   refine N_use a0 ?_
   have hm := a9
   refine N_then ?_
   rcases gx_bif hm with ⟨G, hm⟩ | ⟨G, hm⟩
   ·refine gT G (G_seq (G_region (wR 1 [(4, .bool false)] bx (W_nil (N_then (G_ret (N_then_ret (N_block_ret (N_then_ret (N_then_ret ?_))))))))))
    obtain rfl := Option.some.inj hm
    obtain rfl := y _ rfl
    have hm := x; simp only [Sum.elim_inr] at hm
    refine N_block_ret (N_meet_ret (N_then_ret ?_))
    obtain rfl := Option.some.inj hm
    exact N_ret [.bool false] (rC RVs_nil) (⟨rfl, W.pk []⟩)
   refine gF G (G_skip (N_then (G_seq (G_seq ?_))))
   obtain ⟨bp, be, ba⟩ := gx_bind hm
   refine G_meet (fun a w' => Mem [] w w' [[(j, .cells ⟨[iv k.Irq, iv k.Priority]⟩ 142 (0, 0))]] ∧ Sat Tryz.f189.ntmps [(0, .slice i g.length h), (1, .slice c d.length f), (5, iv b), (6, pB j 0), (60, .bool bp)] a) ?_ ?_
   ·have hm := be
    refine G_quiet (by kernel_rfl) (by kernel_rfl) W (zR [iv b, .bool (decide (b > 0)), .bool (decide (b > 0))] [(0, .slice i g.length h), (1, .slice c d.length f), (5, iv b), (6, pB j 0), (41, .bool (decide (b > 0)))] ?_)
    rcases gx_bif hm with ⟨H, hm⟩ | ⟨H, hm⟩
    ·refine zK 41 true H (zR [.slice c d.length f, iv b, iv (w64 (b - 1))] [(0, .slice i g.length h), (1, .slice c d.length f), (5, iv b), (6, pB j 0), (41, .bool true), (42, .slice c d.length f), (44, iv (w64 (b - 1)))] ?_)
     obtain ⟨n, N, hm⟩ := gx_bind hm
     refine zV (elemP c ((w64 (b - 1)).toNat * 2)) (fun w_ M_ => (eI (m.mem0 M_) rfl N)) (zV (elemP c ((w64 (b - 1)).toNat * 2 + 1)) (fun w_ M_ => (eF 1 ((w64 (b - 1)).toNat * 2) 1 (m.mem0 M_) N)) (zV (iv n.Priority) (fun w_ M_ => (eE false 1 1 ((w64 (b - 1)).toNat * 2 + 1) (m.mem0 M_) N)) (zR [.slice c d.length f, iv b, iv (w64 (b - 1))] [(0, .slice i g.length h), (1, .slice c d.length f), (5, iv b), (6, pB j 0), (41, .bool true), (47, iv n.Priority), (48, .slice c d.length f), (50, iv (w64 (b - 1)))] ?_)))
     obtain ⟨t, O, hm⟩ := gx_bind hm
     refine zV (elemP c ((w64 (b - 1)).toNat * 2)) (fun w_ M_ => (eI (m.mem0 M_) rfl O)) (zV (elemP c ((w64 (b - 1)).toNat * 2 + 0)) (fun w_ M_ => (eF 0 ((w64 (b - 1)).toNat * 2) 0 (m.mem0 M_) O)) (zV (iv t.Irq) (fun w_ M_ => (eE false 1 0 ((w64 (b - 1)).toNat * 2 + 0) (m.mem0 M_) O)) (zR [pB j 1] [(0, .slice i g.length h), (1, .slice c d.length f), (5, iv b), (6, pB j 0), (41, .bool true), (47, iv n.Priority), (53, iv t.Irq), (54, pB j 1)] (zV (iv k.Priority) (fun w_ M_ => (eL false 1 1 (M_.blk 0 rfl))) (zR [pB j 0] [(0, .slice i g.length h), (1, .slice c d.length f), (5, iv b), (6, pB j 0), (41, .bool true), (47, iv n.Priority), (53, iv t.Irq), (55, iv k.Priority), (56, pB j 0)] (zV (iv k.Irq) (fun w_ M_ => (eL false 1 0 (M_.blk 0 rfl))) ?_))))))
     obtain ⟨z, bj, hm⟩ := gx_bind hm
     refine Z_call 171 #[iv n.Priority, iv t.Irq, iv k.Priority, iv k.Irq] (.bool z) (by kernel_rfl) (fun w_ => by kernel_rfl) (fun w_ M_ => (c_s_l8Less w_ n.Priority t.Irq k.Priority k.Irq bj).mono fun e w2_ h_ => ⟨h_.1, M_.call0 h_.2⟩) (zR [.bool (!z), .bool (!z)] [(0, .slice i g.length h), (1, .slice c d.length f), (5, iv b), (6, pB j 0), (60, .bool (!z))] (Z_end fun ca au => ?_))
     obtain rfl := Option.some.inj hm
     exact N_meet fun a ha => ⟨au.pk [0], ha.s⟩
    refine zK 41 false H (zR [undef, undef, undef, undef, undef, undef, undef, undef, undef, undef, undef, undef, undef, undef, undef, undef, undef, undef, .bool false] [(0, .slice i g.length h), (1, .slice c d.length f), (5, iv b), (6, pB j 0), (60, .bool false)] (Z_end fun cb av => ?_))
    obtain rfl := Option.some.inj hm
    exact N_meet fun a ha => ⟨av.pk [0], ha.s⟩
   intro b4 aj ⟨X, a3⟩
   refine N_use a3 ?_
   have hm := ba
   refine N_then ?_
   rcases gx_bif hm with ⟨I, hm⟩ | ⟨I, hm⟩
   ·refine gT I (G_seq (G_region (wR 1 [(4, .bool false)] aj (W_nil (N_then (G_ret (N_then_ret (N_block_ret (N_then_ret (N_then_ret ?_))))))))))
    obtain rfl := Option.some.inj hm
    obtain rfl := y _ rfl
    have hm := x; simp only [Sum.elim_inr] at hm
    refine N_block_ret (N_meet_ret (N_then_ret ?_))
    obtain rfl := Option.some.inj hm
    exact N_ret [.bool false] (rC RVs_nil) (⟨rfl, X.pk []⟩)
   refine gF I (G_skip (N_then (G_seq (G_region (wR 1 [(0, .slice i g.length h), (1, .slice c d.length f), (5, iv b), (6, pB j 0), (7, iv 0)] aj (W_nil (N_then ?_)))))))
   obtain ⟨br, bm, ad⟩ := gx_bind hm
   refine G_meet (fun a w' => ∃ (ah : Unit), br = .inl ah ∧ Mem [] w w' [] ∧ Sat Tryz.f189.ntmps [(0, .slice i g.length h), (1, .slice c d.length f), (5, iv b)] a) ?_ ?_
   ·refine G_block (G_while (σ := Int) (ρ := (Unit) ⊕ (Bool)) (fun l a w' => Mem [] w w' [[(j, .cells ⟨[iv k.Irq, iv k.Priority]⟩ 142 (0, 0))]] ∧ Sat Tryz.f189.ntmps [(0, .slice i g.length h), (1, .slice c d.length f), (5, iv b), (6, pB j 0), (7, iv l)] a) bm (fun a ha => ⟨X.pk [0], ha.s⟩) ?_)
    clear hm
    intro l ce hm ae b5 bz ⟨Y, a4⟩
    refine G_use a4 (G_seq (G_seq (G_region (wR 3 [(0, .slice i g.length h), (1, .slice c d.length f), (5, iv b), (6, pB j 0), (7, iv l), (63, .bool (decide (l < b)))] bz (W_nil (N_then ?_))))))
    rcases gx_bif hm with ⟨J, hm⟩ | ⟨J, hm⟩
    ·refine gT J (G_skip (N_then (G_seq (G_block (G_seq (G_quiet (by kernel_rfl) (by kernel_rfl) Y (zR [.slice c d.length f, iv l] [(0, .slice i g.length h), (1, .slice c d.length f), (5, iv b), (6, pB j 0), (7, iv l), (66, .slice c d.length f), (67, iv l)] ?_)))))))
     obtain ⟨A, P, hm⟩ := gx_bind hm
     refine zV (elemP c (l.toNat * 2)) (fun w_ M_ => (eI (m.mem0 M_) rfl P)) (zV (elemP c (l.toNat * 2 + 0)) (fun w_ M_ => (eF 0 (l.toNat * 2) 0 (m.mem0 M_) P)) (zV (iv A.Irq) (fun w_ M_ => (eE false 1 0 (l.toNat * 2 + 0) (m.mem0 M_) P)) (zR [pB j 0] [(0, .slice i g.length h), (1, .slice c d.length f), (5, iv b), (6, pB j 0), (7, iv l), (70, iv A.Irq), (71, pB j 0)] (zV (iv k.Irq) (fun w_ M_ => (eL false 1 0 (M_.blk 0 rfl))) (zR [.bool (A.Irq == k.Irq)] [(0, .slice i g.length h), (1, .slice c d.length f), (5, iv b), (6, pB j 0), (7, iv l), (73, .bool (A.Irq == k.Irq))] (Z_end fun ak Z => (N_then ?_)))))))
     rcases gx_bif hm with ⟨K, hm⟩ | ⟨K, hm⟩
     ·refine gT K (G_seq (G_region (wR 1 [(4, .bool false)] ak (W_nil (N_then (G_ret (N_block_ret (N_then_ret (N_then_ret ?_)))))))))
      obtain rfl := Option.some.inj hm
      obtain rfl := ae _ rfl
      have hm := ad; simp only [Sum.elim_inr] at hm
      refine N_block_ret (N_meet_ret (N_block_ret (N_then_ret (N_then_ret ?_))))
      obtain rfl := Option.some.inj hm
      obtain rfl := y _ rfl
      have hm := x; simp only [Sum.elim_inr] at hm
      refine N_block_ret (N_meet_ret (N_then_ret ?_))
      obtain rfl := Option.some.inj hm
      exact N_ret [.bool false] (rC RVs_nil) (⟨rfl, Z.pk []⟩)
     refine gF K (G_skip (N_block (N_then (G_region (wR 3 [(0, .slice i g.length h), (1, .slice c d.length f), (5, iv b), (6, pB j 0), (7, iv (w64 (l + 1)))] ak (W_nil ?_))))))
     obtain rfl := Option.some.inj hm
     exact N_loop fun a ha => ⟨_, rfl, Z.pk [0], ha.s⟩
    refine gF J (G_exit (N_then_exit (N_then_exit (N_block_eq ?_))))
    obtain rfl := Option.some.inj hm
    obtain rfl := ae _ rfl
    exact N_meet fun a ha => ⟨_, rfl, Y.pk [], ha.s⟩
   intro b6 b0 ⟨ah, hout_, aw, a5⟩
   refine N_use a5 ?_
   subst hout_
   have hm := ad; simp only [Sum.elim_inl] at hm
   refine N_block (N_then (G_region (wR 3 [(0, .slice i g.length h), (1, .slice c d.length f), (5, iv (w64 (b + 1)))] b0 (W_nil ?_))))
   obtain rfl := Option.some.inj hm
   exact N_loop fun a ha => ⟨_, rfl, aw.pk [], ha.s⟩
  refine gF D (G_exit (N_then_exit (N_then_exit (N_block_eq ?_))))
  obtain rfl := Option.some.inj hm
  obtain rfl := y _ rfl
  exact N_meet fun a ha => ⟨_, rfl, u.pk [], ha.s⟩
 intro b7 al ⟨ag, hout_, aa, a6⟩
 refine N_use a6 ?_
 subst hout_
 have hm := x; simp only [Sum.elim_inl] at hm
 refine N_then (G_seq ?_)
 obtain ⟨ai, bf, bb⟩ := gx_bind hm
 refine G_meet (fun a w' => Mem [] w w' [] ∧ Sat Tryz.f189.ntmps [(4, .bool ai)] a) ?_ ?_
 ·have hm := bf
  refine G_region (wR 1 [(1, .slice c d.length f), (74, .slice i g.length h)] al ?_)
  obtain ⟨bv, bk, hm⟩ := gx_bind hm
  refine wC 234 #[.slice i g.length h] ((c_s_l8Good al g i h (ac.mem0 aa) bk).mono ?_)
  rintro e_ T ⟨rfl, ap⟩
  have ab := aa.call0 ap
  refine ⟨_, rfl, ?_⟩
  refine wR 1 [(1, .slice c d.length f), (76, .bool bv)] T ?_
  rcases gx_bif hm with ⟨L, hm⟩ | ⟨L, hm⟩
  ·refine wK 76 true L (wR 5 [(4, .bool (decide ((d.length : Int) ≤ 8)))] T (W_nil ?_))
   obtain rfl := Option.some.inj hm
   exact N_meet fun a ha => ⟨ab.pk [], ha.s⟩
  refine wK 76 false L (wR 5 [(4, .bool false)] T (W_nil ?_))
  obtain rfl := Option.some.inj hm
  exact N_meet fun a ha => ⟨ab.pk [], ha.s⟩
 intro b8 cc ⟨ax, a7⟩
 refine N_use a7 ?_
 have hm := bb
 refine N_then (G_ret ?_)
 obtain rfl := Option.some.inj hm
 exact N_ret [.bool ai] (rC RVs_nil) (⟨rfl, ax.pk []⟩)
theorem c_s_l8Free (w : World) (d : List Slot) (c : Option Addr) (f : Nat) (i : rdS encSlot w d c f) {r : Int} (hm : M.s_l8Free d = some r) :
  Calls Tryz.prog 235 #[.slice c d.length f] w fun e w' => e = .returned (iv r) ∧ Mem [] w w' [] := by
 unfold M.s_l8Free at hm
 refine cE Tryz.func235 ?_
 have M0 := Mem.refl [] w
 refine G_seq (G_region (wR 1 [(0, .slice c d.length f)] w (W_nil (N_then (G_seq (G_seq (G_region (wR 1 [(0, .slice c d.length f), (3, iv 0)] w (W_nil (N_then ?_))))))))))
 obtain ⟨y, x, m⟩ := gx_bind hm
 refine G_meet (fun a w' => ∃ (o : Unit), y = .inl o ∧ Mem [] w w' [] ∧ Sat Tryz.f235.ntmps [] a) ?_ ?_
 ·refine G_block (G_while (σ := Int) (ρ := (Unit) ⊕ (Int)) (fun b a w' => Mem [] w w' [] ∧ Sat Tryz.f235.ntmps [(0, .slice c d.length f), (3, iv b)] a) x (fun a ha => ⟨M0.pk [], ha.s⟩) ?_)
  clear hm
  intro b C hm n A g ⟨h, u⟩
  refine G_use u (G_seq (G_seq (G_region (wR 4 [(0, .slice c d.length f), (3, iv b), (7, .bool (decide (b < (d.length : Int))))] g (W_nil (N_then ?_))))))
  rcases gx_bif hm with ⟨j, hm⟩ | ⟨j, hm⟩
  ·refine gT j (G_skip (N_then (G_seq (G_block (G_seq (G_region (wR 2 [(0, .slice c d.length f), (3, iv b), (10, .slice c d.length f), (11, iv b)] g ?_)))))))
   obtain ⟨q, l, hm⟩ := gx_bind hm
   refine wV (elemP c (b.toNat * 3)) g (eI (i.mem0 h) rfl l) (wV (elemP c (b.toNat * 3 + 0)) g (eF 0 (b.toNat * 3) 0 (i.mem0 h) l) (wV (iv q.State) g (eE false 1 0 (b.toNat * 3 + 0) (i.mem0 h) l) (wR 1 [(0, .slice c d.length f), (3, iv b), (15, .bool (q.State == 0))] g (W_nil (N_then ?_)))))
   rcases gx_bif hm with ⟨k, hm⟩ | ⟨k, hm⟩
   ·refine gT k (G_seq (G_region (wR 2 [(2, iv b)] g (W_nil (N_then (G_ret (N_block_ret (N_then_ret (N_then_ret ?_)))))))))
    obtain rfl := Option.some.inj hm
    obtain rfl := n _ rfl
    have hm := m; simp only [Sum.elim_inr] at hm
    refine N_block_ret (N_meet_ret (N_then_ret ?_))
    obtain rfl := Option.some.inj hm
    exact N_ret [iv b] (rC RVs_nil) (⟨rfl, h.pk []⟩)
   refine gF k (G_skip (N_block (N_then (G_region (wR 3 [(0, .slice c d.length f), (3, iv (w64 (b + 1)))] g (W_nil ?_))))))
   obtain rfl := Option.some.inj hm
   exact N_loop fun a ha => ⟨_, rfl, h.pk [], ha.s⟩
  refine gF j (G_exit (N_then_exit (N_then_exit (N_block_eq ?_))))
  obtain rfl := Option.some.inj hm
  obtain rfl := n _ rfl
  exact N_meet fun a ha => ⟨_, rfl, h.pk [], ha.s⟩
 intro B z ⟨o, hout_, t, v⟩
 refine N_use v ?_
 subst hout_
 have hm := m; simp only [Sum.elim_inl] at hm
 refine N_then (G_seq (G_region (wR 1 [(2, iv (-1))] z (W_nil (N_then (G_ret ?_))))))
 obtain rfl := Option.some.inj hm
 exact N_ret [iv (-1)] (rC RVs_nil) (⟨rfl, t.pk []⟩)
end Go.Proofs.YtllhajkgkghhdaaGreat
