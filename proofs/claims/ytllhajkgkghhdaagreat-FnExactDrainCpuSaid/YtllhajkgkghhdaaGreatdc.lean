/- Part of a proof: what its last text rests on. -/
import Derived.Test.YtllhajkgkghhdaaGreatProg
import Derived.Test.YtllhajkgkghhdaaGreatSh
import Derived.Test.YtllhajkgkghhdaaGreatdb
set_option linter.unusedVariables false
set_option maxRecDepth 100000
set_option maxHeartbeats 4000000
namespace Go.Proofs.YtllhajkgkghhdaaGreat
open Go.Gx
theorem c_l_eqSlotS (w : World) (c : List Slot) (f : Option Addr) (h : Nat) (u : rdS encSlot w c f h) (d : List Slot) (g : Option Addr) (i : Nat) (v : rdS encSlot w d g i) {r : Bool} (hm : M.l_eqSlotS c d = some r) :
  Calls Tryz.prog 212 #[.slice f c.length h, .slice g d.length i] w fun e w' => e = .returned (.bool r) ∧ Mem [] w w' [] := by
 unfold M.l_eqSlotS at hm
 refine cE Tryz.func212 ?_
 have M0 := Mem.refl [] w
 refine QA (MW 1 (NB (wR 5 [(0, .slice f c.length h), (1, .slice g d.length i), (10, .bool ((c.length : Int) != (d.length : Int)))] w (NO ?_))))
 rcases gx_bif hm with ⟨l, hm⟩ | ⟨l, hm⟩
 ·refine gT l (QA (wR 1 [(4, .bool false)] w (ND ?_)))
  obtain rfl := HS hm
  exact RA [.bool false] (⟨rfl, M0.pk []⟩)
 refine gF l (KB (wR 1 [(0, .slice f c.length h), (1, .slice g d.length i), (5, iv 0)] w (NO ?_)))
 obtain ⟨I, H, x⟩ := gx_bind hm
 refine G_meet (fun a w' => ∃ (B : Unit), I = .inl B ∧ Mem [] w w' [] ∧ Sat Tryz.f212.ntmps [] a) ?_ ?_
 ·refine GB (G_while (σ := Int) (ρ := (Unit) ⊕ (Bool)) (fun b a w' => Mem [] w w' [] ∧ Sat Tryz.f212.ntmps [(0, .slice f c.length h), (1, .slice g d.length i), (5, iv b)] a) H (fun a ha => ⟨M0.pk [], ha.s⟩) ?_)
  clear hm
  intro b O hm y L J ⟨q, E⟩
  refine G_use E (QB (wR 4 [(0, .slice f c.length h), (1, .slice g d.length i), (5, iv b), (14, .bool (decide (b < (c.length : Int))))] J (NO ?_)))
  rcases gx_bif hm with ⟨m, hm⟩ | ⟨m, hm⟩
  ·refine gT m (GK (TN (GS (GB (GS (G_quiet (by kernel_rfl) (by kernel_rfl) q (MS 2 [(0, .slice f c.length h), (1, .slice g d.length i), (5, iv b), (17, .slice f c.length h), (18, iv b)] ?_)))))))
   obtain ⟨j, z, hm⟩ := gx_bind hm
   refine zV (elemP f (b.toNat * 3)) (fun w_ M_ => (eI (u.mem0 M_) rfl z)) (zV (.agg #[iv j.State, iv j.Irq, iv j.Priority]) (fun w_ M_ => (eE true 3 0 (b.toNat * 3) (u.mem0 M_) z)) (MS 2 [(0, .slice f c.length h), (1, .slice g d.length i), (5, iv b), (20, .agg #[iv j.State, iv j.Irq, iv j.Priority]), (21, .slice g d.length i), (22, iv b)] ?_))
   obtain ⟨k, A, hm⟩ := gx_bind hm
   refine zV (elemP g (b.toNat * 3)) (fun w_ M_ => (eI (v.mem0 M_) rfl A)) (zV (.agg #[iv k.State, iv k.Irq, iv k.Priority]) (fun w_ M_ => (eE true 3 0 (b.toNat * 3) (v.mem0 M_) A)) ?_)
   obtain ⟨o, G, hm⟩ := gx_bind hm
   refine ZC (.bool o) (fun w_ M_ => c_l_eqSlot w_ j k G) (MS 1 [(0, .slice f c.length h), (1, .slice g d.length i), (5, iv b), (26, .bool (!o))] (Z_end fun C t => (TN ?_)))
   rcases gx_bif hm with ⟨n, hm⟩ | ⟨n, hm⟩
   ·refine gT n (QA (wR 1 [(4, .bool false)] C (NX ?_)))
    obtain rfl := HS hm
    obtain rfl := y _ rfl
    have hm := x; simp only [Sum.elim_inr] at hm
    refine BR (N_meet_ret (TR ?_))
    obtain rfl := HS hm
    exact RA [.bool false] (⟨rfl, t.pk []⟩)
   refine gF n (KC (wR 3 [(0, .slice f c.length h), (1, .slice g d.length i), (5, iv (w64 (b + 1)))] C (WN ?_)))
   cases hm
   exact N_loop fun a ha => ⟨_, rfl, t.pk [], ha.s⟩
  refine gF m (XA ?_)
  obtain rfl := HS hm
  obtain rfl := y _ rfl
  exact N_meet fun a ha => ⟨_, rfl, q.pk [], ha.s⟩
 intro N K ⟨B, hout_, D, F⟩
 refine N_use F ?_
 subst hout_
 have hm := x; simp only [Sum.elim_inl] at hm
 refine NF (wR 1 [(4, .bool true)] K (NC ?_))
 obtain rfl := HS hm
 exact RA [.bool true] (⟨rfl, D.pk []⟩)
theorem c_l_eqWaiter (w : World) (b : Waiter) (c : Waiter) {r : Bool} (hm : M.l_eqWaiter b c = some r) :
  Calls Tryz.prog 247 #[.agg #[iv b.Irq, iv b.Priority], .agg #[iv c.Irq, iv c.Priority]] w fun e w' => e = .returned (.bool r) ∧ Mem [] w w' [] := by
 unfold M.l_eqWaiter at hm
 refine cE Tryz.func247 ?_
 have M0 := Mem.refl [] w
 refine QA (wN (.cells ⟨[iv b.Irq, iv b.Priority]⟩ 142 (0, 0)) M0 fun g k j => wN (.cells ⟨[iv c.Irq, iv c.Priority]⟩ 142 (0, 0)) j fun f a d => MW 1 (NB (MW 1 (wV (iv b.Irq) a (eL false 1 0 (d.blk 0 rfl)) (MW 1 (wV (iv c.Irq) a (eL false 1 0 (d.blk 1 rfl)) (wR 1 [(2, pB g 0), (3, pB f 0), (9, .bool (b.Irq != c.Irq))] a (NO ?_))))))))
 rcases gx_bif hm with ⟨h, hm⟩ | ⟨h, hm⟩
 ·refine gT h (QA (wR 1 [(4, .bool false)] a (ND ?_)))
  obtain rfl := HS hm
  exact RA [.bool false] (⟨rfl, d.pk []⟩)
 refine gF h (KB (MW 1 (wV (iv b.Priority) a (eL false 1 1 (d.blk 0 rfl)) (MW 1 (wV (iv c.Priority) a (eL false 1 1 (d.blk 1 rfl)) (wR 1 [(14, .bool (b.Priority != c.Priority))] a (NO ?_)))))))
 rcases gx_bif hm with ⟨i, hm⟩ | ⟨i, hm⟩
 ·refine gT i (QA (wR 1 [(4, .bool false)] a (ND ?_)))
  obtain rfl := HS hm
  exact RA [.bool false] (⟨rfl, d.pk []⟩)
 refine gF i (KA (wR 1 [(4, .bool true)] a (NC ?_)))
 obtain rfl := HS hm
 exact RA [.bool true] (⟨rfl, d.pk []⟩)
theorem c_l_eqWaiterS (w : World) (c : List Waiter) (f : Option Addr) (h : Nat) (u : rdS encWaiter w c f h) (d : List Waiter) (g : Option Addr) (i : Nat) (v : rdS encWaiter w d g i) {r : Bool} (hm : M.l_eqWaiterS c d = some r) :
  Calls Tryz.prog 213 #[.slice f c.length h, .slice g d.length i] w fun e w' => e = .returned (.bool r) ∧ Mem [] w w' [] := by
 unfold M.l_eqWaiterS at hm
 refine cE Tryz.func213 ?_
 have M0 := Mem.refl [] w
 refine QA (MW 1 (NB (wR 5 [(0, .slice f c.length h), (1, .slice g d.length i), (10, .bool ((c.length : Int) != (d.length : Int)))] w (NO ?_))))
 rcases gx_bif hm with ⟨l, hm⟩ | ⟨l, hm⟩
 ·refine gT l (QA (wR 1 [(4, .bool false)] w (ND ?_)))
  obtain rfl := HS hm
  exact RA [.bool false] (⟨rfl, M0.pk []⟩)
 refine gF l (KB (wR 1 [(0, .slice f c.length h), (1, .slice g d.length i), (5, iv 0)] w (NO ?_)))
 obtain ⟨I, H, x⟩ := gx_bind hm
 refine G_meet (fun a w' => ∃ (B : Unit), I = .inl B ∧ Mem [] w w' [] ∧ Sat Tryz.f213.ntmps [] a) ?_ ?_
 ·refine GB (G_while (σ := Int) (ρ := (Unit) ⊕ (Bool)) (fun b a w' => Mem [] w w' [] ∧ Sat Tryz.f213.ntmps [(0, .slice f c.length h), (1, .slice g d.length i), (5, iv b)] a) H (fun a ha => ⟨M0.pk [], ha.s⟩) ?_)
  clear hm
  intro b O hm y L J ⟨q, E⟩
  refine G_use E (QB (wR 4 [(0, .slice f c.length h), (1, .slice g d.length i), (5, iv b), (14, .bool (decide (b < (c.length : Int))))] J (NO ?_)))
  rcases gx_bif hm with ⟨m, hm⟩ | ⟨m, hm⟩
  ·refine gT m (GK (TN (GS (GB (GS (G_quiet (by kernel_rfl) (by kernel_rfl) q (MS 2 [(0, .slice f c.length h), (1, .slice g d.length i), (5, iv b), (17, .slice f c.length h), (18, iv b)] ?_)))))))
   obtain ⟨j, z, hm⟩ := gx_bind hm
   refine zV (elemP f (b.toNat * 2)) (fun w_ M_ => (eI (u.mem0 M_) rfl z)) (zV (.agg #[iv j.Irq, iv j.Priority]) (fun w_ M_ => (eE true 2 0 (b.toNat * 2) (u.mem0 M_) z)) (MS 2 [(0, .slice f c.length h), (1, .slice g d.length i), (5, iv b), (20, .agg #[iv j.Irq, iv j.Priority]), (21, .slice g d.length i), (22, iv b)] ?_))
   obtain ⟨k, A, hm⟩ := gx_bind hm
   refine zV (elemP g (b.toNat * 2)) (fun w_ M_ => (eI (v.mem0 M_) rfl A)) (zV (.agg #[iv k.Irq, iv k.Priority]) (fun w_ M_ => (eE true 2 0 (b.toNat * 2) (v.mem0 M_) A)) ?_)
   obtain ⟨o, G, hm⟩ := gx_bind hm
   refine ZC (.bool o) (fun w_ M_ => c_l_eqWaiter w_ j k G) (MS 1 [(0, .slice f c.length h), (1, .slice g d.length i), (5, iv b), (26, .bool (!o))] (Z_end fun C t => (TN ?_)))
   rcases gx_bif hm with ⟨n, hm⟩ | ⟨n, hm⟩
   ·refine gT n (QA (wR 1 [(4, .bool false)] C (NX ?_)))
    obtain rfl := HS hm
    obtain rfl := y _ rfl
    have hm := x; simp only [Sum.elim_inr] at hm
    refine BR (N_meet_ret (TR ?_))
    obtain rfl := HS hm
    exact RA [.bool false] (⟨rfl, t.pk []⟩)
   refine gF n (KC (wR 3 [(0, .slice f c.length h), (1, .slice g d.length i), (5, iv (w64 (b + 1)))] C (WN ?_)))
   cases hm
   exact N_loop fun a ha => ⟨_, rfl, t.pk [], ha.s⟩
  refine gF m (XA ?_)
  obtain rfl := HS hm
  obtain rfl := y _ rfl
  exact N_meet fun a ha => ⟨_, rfl, q.pk [], ha.s⟩
 intro N K ⟨B, hout_, D, F⟩
 refine N_use F ?_
 subst hout_
 have hm := x; simp only [Sum.elim_inl] at hm
 refine NF (wR 1 [(4, .bool true)] K (NC ?_))
 obtain rfl := HS hm
 exact RA [.bool true] (⟨rfl, D.pk []⟩)
theorem c_l_eqQueue (w : World) (a : Queue) (g : Option Addr) (d : Nat) (C : rdS encSlot w a.Slots g d) (h : Option Addr) (f : Nat) (D : rdS encWaiter w a.Waiting h f) (b : Queue) (n : Option Addr) (l : Nat) (E : rdS encSlot w b.Slots n l) (o : Option Addr) (m : Nat) (F : rdS encWaiter w b.Waiting o m) {r : Bool} (hm : M.l_eqQueue a b = some r) :
  Calls Tryz.prog 167 #[.agg #[.slice g a.Slots.length d, .slice h a.Waiting.length f], .agg #[.slice n b.Slots.length l, .slice o b.Waiting.length m]] w fun e w' => e = .returned (.bool r) ∧ Mem [] w w' [] := by
 unfold M.l_eqQueue at hm
 refine cE Tryz.func167 ?_
 have M0 := Mem.refl [] w
 refine QA (wN (.cells ⟨[.slice g a.Slots.length d, .slice h a.Waiting.length f]⟩ 85 (0, 0)) M0 fun k K B => wN (.cells ⟨[.slice n b.Slots.length l, .slice o b.Waiting.length m]⟩ 85 (0, 0)) B fun c q t => MW 1 (NB (MW 1 (wV (.slice g a.Slots.length d) q (eL false 1 0 (t.blk 0 rfl)) (wR 1 [(2, pB k 0), (3, pB c 0), (6, .slice g a.Slots.length d), (7, pB c 0)] q (wV (.slice n b.Slots.length l) q (eL false 1 0 (t.blk 1 rfl)) ?_))))))
 obtain ⟨I, G, hm⟩ := gx_bind hm
 refine WD (c_l_eqSlotS q a.Slots g d (C.mem0 t) b.Slots n l (E.mem0 t) G) t fun i j => wR 1 [(2, pB k 0), (3, pB c 0), (10, .bool (!I))] i (NO ?_)
 rcases gx_bif hm with ⟨u, hm⟩ | ⟨u, hm⟩
 ·refine gT u (QA (wR 1 [(4, .bool false)] i (ND ?_)))
  obtain rfl := HS hm
  exact RA [.bool false] (⟨rfl, j.pk []⟩)
 refine gF u (KB (MW 1 (wV (.slice h a.Waiting.length f) i (eL false 1 1 (j.blk 0 rfl)) (wR 1 [(12, .slice h a.Waiting.length f), (13, pB c 1)] i (wV (.slice o b.Waiting.length m) i (eL false 1 1 (j.blk 1 rfl)) ?_)))))
 obtain ⟨J, H, hm⟩ := gx_bind hm
 refine WD (c_l_eqWaiterS i a.Waiting h f (D.mem0 j) b.Waiting o m (F.mem0 j) H) j fun x y => wR 1 [(16, .bool (!J))] x (NO ?_)
 rcases gx_bif hm with ⟨v, hm⟩ | ⟨v, hm⟩
 ·refine gT v (QA (wR 1 [(4, .bool false)] x (ND ?_)))
  obtain rfl := HS hm
  exact RA [.bool false] (⟨rfl, y.pk []⟩)
 refine gF v (KA (wR 1 [(4, .bool true)] x (NC ?_)))
 obtain rfl := HS hm
 exact RA [.bool true] (⟨rfl, y.pk []⟩)
theorem c_l_eqInterface (w : World) (a : Interface) (l : Option Addr) (i : Nat) (H : rdS Gx.encI w a.Stack l i) (m : Option Addr) (j : Nat) (I : rdS encSlot w a.Queue.Slots m j) (n : Option Addr) (k : Nat) (J : rdS encWaiter w a.Queue.Waiting n k) (b : Interface) (v : Option Addr) (q : Nat) (K : rdS Gx.encI w b.Stack v q) (x : Option Addr) (t : Nat) (L : rdS encSlot w b.Queue.Slots x t) (y : Option Addr) (u : Nat) (N : rdS encWaiter w b.Queue.Waiting y u) {r : Bool} (hm : M.l_eqInterface a b = some r) :
  Calls Tryz.prog 123 #[.agg #[iv a.Mask, .slice l a.Stack.length i, .slice m a.Queue.Slots.length j, .slice n a.Queue.Waiting.length k], .agg #[iv b.Mask, .slice v b.Stack.length q, .slice x b.Queue.Slots.length t, .slice y b.Queue.Waiting.length u]] w fun e w' => e = .returned (.bool r) ∧ Mem [] w w' [] := by
 unfold M.l_eqInterface at hm
 refine cE Tryz.func123 ?_
 have M0 := Mem.refl [] w
 refine QA (wN (.cells ⟨[iv a.Mask, .slice l a.Stack.length i, .slice m a.Queue.Slots.length j, .slice n a.Queue.Waiting.length k]⟩ 87 (0, 0)) M0 fun f S G => wN (.cells ⟨[iv b.Mask, .slice v b.Stack.length q, .slice x b.Queue.Slots.length t, .slice y b.Queue.Waiting.length u]⟩ 87 (0, 0)) G fun d c g => MW 1 (NB (MW 1 (wV (iv a.Mask) c (eL false 1 0 (g.blk 0 rfl)) (MW 1 (wV (iv b.Mask) c (eL false 1 0 (g.blk 1 rfl)) (wR 1 [(2, pB f 0), (3, pB d 0), (9, .bool (a.Mask != b.Mask))] c (NO ?_))))))))
 rcases gx_bif hm with ⟨z, hm⟩ | ⟨z, hm⟩
 ·refine gT z (QA (wR 1 [(4, .bool false)] c (ND ?_)))
  obtain rfl := HS hm
  exact RA [.bool false] (⟨rfl, g.pk []⟩)
 refine gF z (KB (MW 1 (wV (.slice l a.Stack.length i) c (eL false 1 1 (g.blk 0 rfl)) (wR 1 [(2, pB f 0), (3, pB d 0), (11, .slice l a.Stack.length i), (12, pB d 1)] c (wV (.slice v b.Stack.length q) c (eL false 1 1 (g.blk 1 rfl)) ?_)))))
 obtain ⟨Q, O, hm⟩ := gx_bind hm
 refine WD (c_l_eqIntS c a.Stack l i (H.mem0 g) b.Stack v q (K.mem0 g) O) g fun o h => wR 1 [(2, pB f 0), (3, pB d 0), (15, .bool (!Q))] o (NO ?_)
 rcases gx_bif hm with ⟨A, hm⟩ | ⟨A, hm⟩
 ·refine gT A (QA (wR 1 [(4, .bool false)] o (ND ?_)))
  obtain rfl := HS hm
  exact RA [.bool false] (⟨rfl, h.pk []⟩)
 refine gF A (KB (MW 1 (wV (.agg #[.slice m a.Queue.Slots.length j, .slice n a.Queue.Waiting.length k]) o (eL true 2 2 (h.blk 0 rfl)) (wR 1 [(17, .agg #[.slice m a.Queue.Slots.length j, .slice n a.Queue.Waiting.length k]), (18, pB d 2)] o (wV (.agg #[.slice x b.Queue.Slots.length t, .slice y b.Queue.Waiting.length u]) o (eL true 2 2 (h.blk 1 rfl)) ?_)))))
 obtain ⟨R, P, hm⟩ := gx_bind hm
 refine WD (c_l_eqQueue o a.Queue m j (I.mem0 h) n k (J.mem0 h) b.Queue x t (L.mem0 h) y u (N.mem0 h) P) h fun C D => wR 1 [(21, .bool (!R))] C (NO ?_)
 rcases gx_bif hm with ⟨B, hm⟩ | ⟨B, hm⟩
 ·refine gT B (QA (wR 1 [(4, .bool false)] C (ND ?_)))
  obtain rfl := HS hm
  exact RA [.bool false] (⟨rfl, D.pk []⟩)
 refine gF B (KA (wR 1 [(4, .bool true)] C (NC ?_)))
 obtain rfl := HS hm
 exact RA [.bool true] (⟨rfl, D.pk []⟩)
theorem c_l_eqInterfaceS (w : World) (g : List Interface) (j : Option Addr) (l : Nat) (K : rdD deepInterface w g j l) (h : List Interface) (k : Option Addr) (m : Nat) (L : rdD deepInterface w h k m) {r : Bool} (hm : M.l_eqInterfaceS g h = some r) :
  Calls Tryz.prog 63 #[.slice j g.length l, .slice k h.length m] w fun e w' => e = .returned (.bool r) ∧ Mem [] w w' [] := by
 unfold M.l_eqInterfaceS at hm
 refine cE Tryz.func63 ?_
 have M0 := Mem.refl [] w
 refine QA (MW 1 (NB (wR 5 [(0, .slice j g.length l), (1, .slice k h.length m), (10, .bool ((g.length : Int) != (h.length : Int)))] w (NO ?_))))
 rcases gx_bif hm with ⟨q, hm⟩ | ⟨q, hm⟩
 ·refine gT q (QA (wR 1 [(4, .bool false)] w (ND ?_)))
  obtain rfl := HS hm
  exact RA [.bool false] (⟨rfl, M0.pk []⟩)
 refine gF q (KB (wR 1 [(0, .slice j g.length l), (1, .slice k h.length m), (5, iv 0)] w (NO ?_)))
 obtain ⟨T, Q, B⟩ := gx_bind hm
 refine G_meet (fun a w' => ∃ (H : Unit), T = .inl H ∧ Mem [] w w' [] ∧ Sat Tryz.f63.ntmps [] a) ?_ ?_
 ·refine GB (G_while (σ := Int) (ρ := (Unit) ⊕ (Bool)) (fun f a w' => Mem [] w w' [] ∧ Sat Tryz.f63.ntmps [(0, .slice j g.length l), (1, .slice k h.length m), (5, iv f)] a) Q (fun a ha => ⟨M0.pk [], ha.s⟩) ?_)
  clear hm
  intro f Y hm C W U ⟨z, N⟩
  refine G_use N (QB (wR 4 [(0, .slice j g.length l), (1, .slice k h.length m), (5, iv f), (14, .bool (decide (f < (g.length : Int))))] U (NO ?_)))
  rcases gx_bif hm with ⟨t, hm⟩ | ⟨t, hm⟩
  ·refine gT t (GK (TN (GS (GB (GS (G_quiet (by kernel_rfl) (by kernel_rfl) z (MS 2 [(0, .slice j g.length l), (1, .slice k h.length m), (5, iv f), (17, .slice j g.length l), (18, iv f)] ?_)))))))
   obtain ⟨d, R, hm⟩ := gx_bind hm
   obtain ⟨Z, F, D, v⟩ := id K
   obtain ⟨b, n⟩ := gxIdx_fst F R
   refine zV (elemP j (f.toNat * 4)) (fun w_ M_ => (eI (D.mem0 M_) (len_fst F) n)) (zV (.agg #[iv d.Mask, .slice ((b 0).1) d.Stack.length ((b 0).2), .slice ((b 1).1) d.Queue.Slots.length ((b 1).2), .slice ((b 2).1) d.Queue.Waiting.length ((b 2).2)]) (fun w_ M_ => (eE true 4 0 (f.toNat * 4) (D.mem0 M_) n)) (MS 2 [(0, .slice j g.length l), (1, .slice k h.length m), (5, iv f), (20, .agg #[iv d.Mask, .slice ((b 0).1) d.Stack.length ((b 0).2), .slice ((b 1).1) d.Queue.Slots.length ((b 1).2), .slice ((b 2).1) d.Queue.Waiting.length ((b 2).2)]), (21, .slice k h.length m), (22, iv f)] ?_))
   obtain ⟨i, S, hm⟩ := gx_bind hm
   obtain ⟨aa, G, E, x⟩ := id L
   obtain ⟨c, o⟩ := gxIdx_fst G S
   refine zV (elemP k (f.toNat * 4)) (fun w_ M_ => (eI (E.mem0 M_) (len_fst G) o)) (zV (.agg #[iv i.Mask, .slice ((c 0).1) i.Stack.length ((c 0).2), .slice ((c 1).1) i.Queue.Slots.length ((c 1).2), .slice ((c 2).1) i.Queue.Waiting.length ((c 2).2)]) (fun w_ M_ => (eE true 4 0 (f.toNat * 4) (E.mem0 M_) o)) ?_)
   obtain ⟨y, P, hm⟩ := gx_bind hm
   refine ZC (.bool y) (fun w_ M_ => c_l_eqInterface w_ d ((b 0).1) ((b 0).2) ((v.mem0 M_).at_ n 0 ⟨Int, Gx.encI, d.Stack, (b 0).1, (b 0).2⟩ (by kernel_rfl)) ((b 1).1) ((b 1).2) ((v.mem0 M_).at_ n 1 ⟨Slot, encSlot, d.Queue.Slots, (b 1).1, (b 1).2⟩ (by kernel_rfl)) ((b 2).1) ((b 2).2) ((v.mem0 M_).at_ n 2 ⟨Waiter, encWaiter, d.Queue.Waiting, (b 2).1, (b 2).2⟩ (by kernel_rfl)) i ((c 0).1) ((c 0).2) ((x.mem0 M_).at_ o 0 ⟨Int, Gx.encI, i.Stack, (c 0).1, (c 0).2⟩ (by kernel_rfl)) ((c 1).1) ((c 1).2) ((x.mem0 M_).at_ o 1 ⟨Slot, encSlot, i.Queue.Slots, (c 1).1, (c 1).2⟩ (by kernel_rfl)) ((c 2).1) ((c 2).2) ((x.mem0 M_).at_ o 2 ⟨Waiter, encWaiter, i.Queue.Waiting, (c 2).1, (c 2).2⟩ (by kernel_rfl)) P) (MS 1 [(0, .slice j g.length l), (1, .slice k h.length m), (5, iv f), (26, .bool (!y))] (Z_end fun I A => (TN ?_)))
   rcases gx_bif hm with ⟨u, hm⟩ | ⟨u, hm⟩
   ·refine gT u (QA (wR 1 [(4, .bool false)] I (NX ?_)))
    obtain rfl := HS hm
    obtain rfl := C _ rfl
    have hm := B; simp only [Sum.elim_inr] at hm
    refine BR (N_meet_ret (TR ?_))
    obtain rfl := HS hm
    exact RA [.bool false] (⟨rfl, A.pk []⟩)
   refine gF u (KC (wR 3 [(0, .slice j g.length l), (1, .slice k h.length m), (5, iv (w64 (f + 1)))] I (WN ?_)))
   cases hm
   exact N_loop fun a ha => ⟨_, rfl, A.pk [], ha.s⟩
  refine gF t (XA ?_)
  obtain rfl := HS hm
  obtain rfl := C _ rfl
  exact N_meet fun a ha => ⟨_, rfl, z.pk [], ha.s⟩
 intro X V ⟨H, hout_, J, O⟩
 refine N_use O ?_
 subst hout_
 have hm := B; simp only [Sum.elim_inl] at hm
 refine NF (wR 1 [(4, .bool true)] V (NC ?_))
 obtain rfl := HS hm
 exact RA [.bool true] (⟨rfl, J.pk []⟩)
theorem c_l_eqMachine (w : World) (a : Machine) (j : Option Addr) (f : Nat) (S : rdS encRoute w a.Routes j f) (k : Option Addr) (g : Nat) (T : rdS Gx.encB w a.Enabled k g) (l : Option Addr) (h : Nat) (U : rdS Gx.encB w a.Raised l h) (m : Option Addr) (i : Nat) (V : rdD deepInterface w a.Cpus m i) (b : Machine) (B : Option Addr) (x : Nat) (W : rdS encRoute w b.Routes B x) (C : Option Addr) (y : Nat) (X : rdS Gx.encB w b.Enabled C y) (D : Option Addr) (z : Nat) (Y : rdS Gx.encB w b.Raised D z) (E : Option Addr) (A : Nat) (Z : rdD deepInterface w b.Cpus E A) {r : Bool} (hm : M.l_eqMachine a b = some r) :
  Calls Tryz.prog 16 #[.agg #[.slice j a.Routes.length f, .slice k a.Enabled.length g, .slice l a.Raised.length h, .slice m a.Cpus.length i], .agg #[.slice B b.Routes.length x, .slice C b.Enabled.length y, .slice D b.Raised.length z, .slice E b.Cpus.length A]] w fun e w' => e = .returned (.bool r) ∧ Mem [] w w' [] := by
 unfold M.l_eqMachine at hm
 refine cE Tryz.func16 ?_
 have M0 := Mem.refl [] w
 refine QA (wN (.cells ⟨[.slice j a.Routes.length f, .slice k a.Enabled.length g, .slice l a.Raised.length h, .slice m a.Cpus.length i]⟩ 32 (0, 0)) M0 fun d w6474 R => wN (.cells ⟨[.slice B b.Routes.length x, .slice C b.Enabled.length y, .slice D b.Raised.length z, .slice E b.Cpus.length A]⟩ 32 (0, 0)) R fun c w6478 F => MW 1 (NB (MW 1 (wV (.slice j a.Routes.length f) w6478 (eL false 1 0 (F.blk 0 rfl)) (wR 1 [(2, pB d 0), (3, pB c 0), (6, .slice j a.Routes.length f), (7, pB c 0)] w6478 (wV (.slice B b.Routes.length x) w6478 (eL false 1 0 (F.blk 1 rfl)) ?_))))))
 obtain ⟨ae, aa, hm⟩ := gx_bind hm
 refine WD (c_l_eqRouteS w6478 a.Routes j f (S.mem0 F) b.Routes B x (W.mem0 F) aa) F fun n t => wR 1 [(2, pB d 0), (3, pB c 0), (10, .bool (!ae))] n (NO ?_)
 rcases gx_bif hm with ⟨G, hm⟩ | ⟨G, hm⟩
 ·refine gT G (QA (wR 1 [(4, .bool false)] n (ND ?_)))
  obtain rfl := HS hm
  exact RA [.bool false] (⟨rfl, t.pk []⟩)
 refine gF G (KB (MW 1 (wV (.slice k a.Enabled.length g) n (eL false 1 1 (t.blk 0 rfl)) (wR 1 [(2, pB d 0), (3, pB c 0), (12, .slice k a.Enabled.length g), (13, pB c 1)] n (wV (.slice C b.Enabled.length y) n (eL false 1 1 (t.blk 1 rfl)) ?_)))))
 obtain ⟨af, ab, hm⟩ := gx_bind hm
 refine WD (c_l_eqBoolS n a.Enabled k g (T.mem0 t) b.Enabled C y (X.mem0 t) ab) t fun o u => wR 1 [(2, pB d 0), (3, pB c 0), (16, .bool (!af))] o (NO ?_)
 rcases gx_bif hm with ⟨H, hm⟩ | ⟨H, hm⟩
 ·refine gT H (QA (wR 1 [(4, .bool false)] o (ND ?_)))
  obtain rfl := HS hm
  exact RA [.bool false] (⟨rfl, u.pk []⟩)
 refine gF H (KB (MW 1 (wV (.slice l a.Raised.length h) o (eL false 1 2 (u.blk 0 rfl)) (wR 1 [(2, pB d 0), (3, pB c 0), (18, .slice l a.Raised.length h), (19, pB c 2)] o (wV (.slice D b.Raised.length z) o (eL false 1 2 (u.blk 1 rfl)) ?_)))))
 obtain ⟨ag, ac, hm⟩ := gx_bind hm
 refine WD (c_l_eqBoolS o a.Raised l h (U.mem0 u) b.Raised D z (Y.mem0 u) ac) u fun q v => wR 1 [(2, pB d 0), (3, pB c 0), (22, .bool (!ag))] q (NO ?_)
 rcases gx_bif hm with ⟨I, hm⟩ | ⟨I, hm⟩
 ·refine gT I (QA (wR 1 [(4, .bool false)] q (ND ?_)))
  obtain rfl := HS hm
  exact RA [.bool false] (⟨rfl, v.pk []⟩)
 refine gF I (KB (MW 1 (wV (.slice m a.Cpus.length i) q (eL false 1 3 (v.blk 0 rfl)) (wR 1 [(24, .slice m a.Cpus.length i), (25, pB c 3)] q (wV (.slice E b.Cpus.length A) q (eL false 1 3 (v.blk 1 rfl)) ?_)))))
 obtain ⟨ah, ad, hm⟩ := gx_bind hm
 refine WD (c_l_eqInterfaceS q a.Cpus m i (V.mem0 v) b.Cpus E A (Z.mem0 v) ad) v fun K L => wR 1 [(28, .bool (!ah))] K (NO ?_)
 rcases gx_bif hm with ⟨J, hm⟩ | ⟨J, hm⟩
 ·refine gT J (QA (wR 1 [(4, .bool false)] K (ND ?_)))
  obtain rfl := HS hm
  exact RA [.bool false] (⟨rfl, L.pk []⟩)
 refine gF J (KA (wR 1 [(4, .bool true)] K (NC ?_)))
 obtain rfl := HS hm
 exact RA [.bool true] (⟨rfl, L.pk []⟩)
theorem c_s_l21Cpu (w : World) (b : Machine) (k : Option Addr) (h : Nat) (B : rdS encRoute w b.Routes k h) (l : Option Addr) (i : Nat) (C : rdS Gx.encB w b.Enabled l i) (m : Option Addr) (j : Nat) (D : rdS Gx.encB w b.Raised m j) (f : Option Addr) (d : Nat) (E : rdD deepInterface w b.Cpus f d) (c : Int) {r : Bool} (hm : M.s_l21Cpu b c = some r) :
  Calls Tryz.prog 64 #[.agg #[.slice k b.Routes.length h, .slice l b.Enabled.length i, .slice m b.Raised.length j, .slice f b.Cpus.length d], iv c] w fun e w' => e = .returned (.bool r) ∧ Mem [] w w' [] := by
 unfold M.s_l21Cpu at hm
 refine cE Tryz.func64 ?_
 have M0 := Mem.refl [] w
 refine QA (wN (.cells ⟨[.slice k b.Routes.length h, .slice l b.Enabled.length i, .slice m b.Raised.length j, .slice f b.Cpus.length d]⟩ 32 (0, 0)) M0 fun q u g => wR 1 [(1, iv c), (2, pB q 0)] u (NE ?_))
 obtain ⟨v, H, G⟩ := gx_bind hm
 refine G_meet (fun a w' => Mem [] w w' [] ∧ Sat Tryz.f64.ntmps [(4, .bool v)] a) ?_ ?_
 ·have hm := H
  refine GR (wV (.agg #[.slice k b.Routes.length h, .slice l b.Enabled.length i, .slice m b.Raised.length j, .slice f b.Cpus.length d]) u (eL true 4 0 (g.blk 0 rfl)) ?_)
  obtain ⟨K, I, hm⟩ := gx_bind hm
  refine WD (c_s_l21Good u b k h (B.mem0 g) l i (C.mem0 g) m j (D.mem0 g) f d (E.mem0 g) I) g fun n o => wR 1 [(1, iv c), (2, pB q 0), (7, .bool K)] n ?_
  rcases gx_bif hm with ⟨t, hm⟩ | ⟨t, hm⟩
  ·refine wK 7 true t (MW 2 (wV (.slice f b.Cpus.length d) n (eL false 1 3 (o.blk 0 rfl)) (wR 2 [(7, .bool true), (8, iv c), (12, iv (w64 ((b.Cpus.length : Int) - 1)))] n ?_)))
   obtain ⟨L, J, hm⟩ := gx_bind hm
   refine WD (c_s_l1In n c 0 (w64 ((b.Cpus.length : Int) - 1)) J) o fun N z => wR 2 [(4, .bool L)] N (WN ?_)
   obtain rfl := HS hm
   exact N_meet fun a ha => ⟨z.pk [], ha.s⟩
  refine wK 7 false t (wR 8 [(4, .bool false)] n (WN ?_))
  obtain rfl := HS hm
  exact N_meet fun a ha => ⟨o.pk [], ha.s⟩
 intro O P ⟨A, F⟩
 refine N_use F ?_
 have hm := G
 refine TN (G_ret ?_)
 obtain rfl := HS hm
 exact RA [.bool v] (⟨rfl, A.pk []⟩)
theorem c_s_l1Own (w : World) (a : List Int) (c : Option Addr) (b : Nat) (n : rdS Gx.encI w a c b) {r : (List Int)} (hm : M.s_l1Own a = some r) :
  Calls Tryz.prog 65 #[.slice c a.length b] w fun e w' => ∃ (j : Option Addr) (i : Nat) (k : Seg), e = .returned (.slice j r.length i) ∧ ownS Gx.encI r j i k ∧ Mem [] w w' [k] := by
 unfold M.s_l1Own at hm
 refine cE Tryz.func65 ?_
 have M0 := Mem.refl [] w
 refine QA (wR 1 [(0, .slice c a.length b)] w (NA (wL (E := Gx.encI) ([] : List Int) 0 [] 3 M0 fun u m z x q g => wR 1 [(3, .slice u ([] : List Int).length m), (4, .slice c a.length b)] x ?_)))
 obtain ⟨h, o, hm⟩ := gx_bind hm
 refine wA 8 [iv 0] 0 g q (n.mem0 g) o fun f d v y t l => wR 1 [(2, .slice f h.length d)] y (NC ?_)
 obtain rfl := HS hm
 exact RA [.slice f h.length d] (⟨f, d, v, rfl, t, l.pk [0]⟩)
theorem c_i_Machine_hasCpu (w : World) (a : Machine) (j : Option Addr) (g : Nat) (x : rdS encRoute w a.Routes j g) (k : Option Addr) (h : Nat) (y : rdS Gx.encB w a.Enabled k h) (l : Option Addr) (i : Nat) (z : rdS Gx.encB w a.Raised l i) (f : Option Addr) (d : Nat) (A : rdD deepInterface w a.Cpus f d) (b : Int) {r : Bool} (hm : M.i_Machine_hasCpu a b = some r) :
  Calls Tryz.prog 66 #[.agg #[.slice j a.Routes.length g, .slice k a.Enabled.length h, .slice l a.Raised.length i, .slice f a.Cpus.length d], iv b] w fun e w' => e = .returned (.bool r) ∧ Mem [] w w' [] := by
 unfold M.i_Machine_hasCpu at hm
 refine cE Tryz.func66 ?_
 have M0 := Mem.refl [] w
 refine QA (wN (.cells ⟨[.slice j a.Routes.length g, .slice k a.Enabled.length h, .slice l a.Raised.length i, .slice f a.Cpus.length d]⟩ 32 (0, 0)) M0 fun n c m => MW 1 (NA (MW 2 (wV (.slice f a.Cpus.length d) c (eL false 1 3 (m.blk 0 rfl)) (wR 2 [(5, iv b), (9, iv (w64 ((a.Cpus.length : Int) - 1)))] c ?_)))))
 obtain ⟨o, u, hm⟩ := gx_bind hm
 refine WD (c_i_inside c b 0 (w64 ((a.Cpus.length : Int) - 1)) u) m fun v t => wR 1 [(4, .bool o)] v (NC ?_)
 obtain rfl := HS hm
 exact RA [.bool o] (⟨rfl, t.pk []⟩)
theorem c_l_markRouteS (w : World) (h : List Route) (c : Option Addr) (f : Nat) (g : Seg) (J : ownS encRoute h c f g) (u : Int) (hA : ∀ q ∈ List.flatten [g], w.heap[q.1]? = some q.2) (hN : (idsOf [g]).Nodup) {r : Int × (List Route)} (hm : M.l_markRouteS h u = some r) :
  Calls Tryz.prog 68 #[.slice c h.length f, iv u] w fun e w' => ∃ (B : Seg), e = .returned (iv r.1) ∧ ownS encRoute r.2 c f B ∧ r.2.length = h.length ∧ Mem (idsOf [g]) w w' [B] := by
 unfold M.l_markRouteS at hm
 refine cE Tryz.func68 ?_
 have M0 := Mem.start' w [g] hA hN
 refine QA (MW 1 (NB (wR 1 [(0, .slice c h.length f), (1, iv u), (5, iv 0)] w (NO ?_))))
 obtain ⟨i, O, I⟩ := gx_bind hm
 refine G_meet (fun a w' => ∃ (n : Seg), ownS encRoute i.2 c f n ∧ i.2.length = h.length ∧ Mem (idsOf [g]) w w' [n] ∧ Sat Tryz.f68.ntmps [(1, iv i.1)] a) ?_ ?_
 ·refine GB (G_while (σ := Int × Int × List Route) (ρ := Int × List Route) (fun b a w' => ∃ (m : Seg), ownS encRoute b.2.2 c f m ∧ b.2.2.length = h.length ∧ Mem (idsOf [g]) w w' [m] ∧ Sat Tryz.f68.ntmps [(0, .slice c b.2.2.length f), (1, iv b.1), (5, iv b.2.1)] a) O (fun a ha => ⟨g, J, rfl, M0.pk [0], ha.s⟩) ?_)
  clear hm
  intro b W hm N S o ⟨m, k, A, j, F⟩
  refine G_use F (QB (wR 4 [(0, .slice c b.2.2.length f), (1, iv b.1), (5, iv b.2.1), (9, .bool (decide (b.2.1 < (b.2.2.length : Int))))] o (NO ?_)))
  rcases gx_bif hm with ⟨x, hm⟩ | ⟨x, hm⟩
  ·refine gT x (KD (wR 3 [(0, .slice c b.2.2.length f), (1, iv b.1), (5, iv b.2.1), (12, .slice c b.2.2.length f), (13, iv b.2.1), (14, iv b.1)] o ?_))
   obtain ⟨d, l, hm⟩ := gx_bind hm
   refine wV (elemP c (b.2.1.toNat * 2)) o (eI (k.r j 0) rfl l) (wV (elemP c (b.2.1.toNat * 2 + 0)) o (eF 0 (b.2.1.toNat * 2) 0 (k.r j 0) l) (wE false 1 b.2.1.toNat 0 (b.2.1.toNat * 2 + 0) d (⟨b.1, d.Target⟩ : Route) (iv b.1) 0 j k (gxIdx_spec l).2 ?_))
   intro t V y v
   have z := gxIdx_put (⟨b.1, d.Target⟩ : Route) l
   refine LX 0 c f b.2.2 b.2.1.toNat (⟨b.1, d.Target⟩ : Route) (LX 12 c f b.2.2 b.2.1.toNat (⟨b.1, d.Target⟩ : Route) (NA (MW 3 (NA (wR 3 [(0, .slice c (b.2.2.set b.2.1.toNat (⟨b.1, d.Target⟩ : Route)).length f), (1, iv (w64 (b.1 + 1))), (5, iv b.2.1), (19, .slice c (b.2.2.set b.2.1.toNat (⟨b.1, d.Target⟩ : Route)).length f), (20, iv b.2.1), (21, iv (w64 (b.1 + 1)))] t ?_)))))
   obtain ⟨X, P, hm⟩ := gx_bind hm
   refine wV (elemP c (b.2.1.toNat * 2)) t (eI (y.r v 0) rfl P) (wV (elemP c (b.2.1.toNat * 2 + 1)) t (eF 1 (b.2.1.toNat * 2) 1 (y.r v 0) z) (wE false 1 b.2.1.toNat 1 (b.2.1.toNat * 2 + 1) (⟨b.1, d.Target⟩ : Route) (⟨(⟨b.1, d.Target⟩ : Route).Priority, w64 (b.1 + 1)⟩ : Route) (iv (w64 (b.1 + 1))) 0 v y (gxIdx_spec z).2 ?_))
   intro C Q L D
   have U := gxIdx_put (⟨(⟨b.1, d.Target⟩ : Route).Priority, w64 (b.1 + 1)⟩ : Route) z
   refine LX 0 c f (b.2.2.set b.2.1.toNat (⟨b.1, d.Target⟩ : Route)) b.2.1.toNat (⟨(⟨b.1, d.Target⟩ : Route).Priority, w64 (b.1 + 1)⟩ : Route) (LX 19 c f (b.2.2.set b.2.1.toNat (⟨b.1, d.Target⟩ : Route)) b.2.1.toNat (⟨(⟨b.1, d.Target⟩ : Route).Priority, w64 (b.1 + 1)⟩ : Route) (NO (GR (MW 3 (NG (wR 3 [(0, .slice c ((b.2.2.set b.2.1.toNat (⟨b.1, d.Target⟩ : Route)).set b.2.1.toNat (⟨(⟨b.1, d.Target⟩ : Route).Priority, w64 (b.1 + 1)⟩ : Route)).length f), (1, iv (w64 ((w64 (b.1 + 1)) + 1))), (5, iv (w64 (b.2.1 + 1)))] C (WN ?_)))))))
   cases hm
   exact N_loop fun a ha => ⟨_, rfl, Q, L, (List.length_set.trans (List.length_set.trans A)), D.pk [0], ha.s⟩
  refine gF x (XA ?_)
  obtain rfl := HS hm
  obtain rfl := N _ rfl
  exact N_meet fun a ha => ⟨m, k, A, j.pk [0], ha.s⟩
 intro T R ⟨n, K, H, E, G⟩
 refine N_use G ?_
 have hm := I
 refine NF (wR 2 [(4, iv i.1)] R (NC ?_))
 obtain rfl := HS hm
 exact RA [iv i.1] (⟨n, rfl, K, H, E.pk [0]⟩)
theorem c_l_markBoolS (w : World) (g : List Bool) (c : Option Addr) (d : Nat) (f : Seg) (E : ownS Gx.encB g c d f) (k : Int) (hA : ∀ q ∈ List.flatten [f], w.heap[q.1]? = some q.2) (hN : (idsOf [f]).Nodup) {r : Int × (List Bool)} (hm : M.l_markBoolS g k = some r) :
  Calls Tryz.prog 69 #[.slice c g.length d, iv k] w fun e w' => ∃ (v : Seg), e = .returned (iv r.1) ∧ ownS Gx.encB r.2 c d v ∧ r.2.length = g.length ∧ Mem (idsOf [f]) w w' [v] := by
 unfold M.l_markBoolS at hm
 refine cE Tryz.func69 ?_
 have M0 := Mem.start' w [f] hA hN
 refine QA (MW 1 (NB (wR 1 [(0, .slice c g.length d), (1, iv k), (5, iv 0)] w (NO ?_))))
 obtain ⟨h, I, D⟩ := gx_bind hm
 refine G_meet (fun a w' => ∃ (j : Seg), ownS Gx.encB h.2 c d j ∧ h.2.length = g.length ∧ Mem (idsOf [f]) w w' [j] ∧ Sat Tryz.f69.ntmps [(1, iv h.1)] a) ?_ ?_
 ·refine GB (G_while (σ := Int × Int × List Bool) (ρ := Int × List Bool) (fun b a w' => ∃ (i : Seg), ownS Gx.encB b.2.2 c d i ∧ b.2.2.length = g.length ∧ Mem (idsOf [f]) w w' [i] ∧ Sat Tryz.f69.ntmps [(0, .slice c b.2.2.length d), (1, iv b.1), (5, iv b.2.1)] a) I (fun a ha => ⟨f, E, rfl, M0.pk [0], ha.s⟩) ?_)
  clear hm
  intro b P hm H N o ⟨i, n, t, l, A⟩
  refine G_use A (QB (wR 4 [(0, .slice c b.2.2.length d), (1, iv b.1), (5, iv b.2.1), (9, .bool (decide (b.2.1 < (b.2.2.length : Int))))] o (NO ?_)))
  rcases gx_bif hm with ⟨m, hm⟩ | ⟨m, hm⟩
  ·refine gT m (KD (wR 5 [(0, .slice c b.2.2.length d), (1, iv b.1), (5, iv b.2.1), (12, .slice c b.2.2.length d), (13, iv b.2.1), (16, .bool ((b.1.tmod 3) == 0))] o ?_))
   obtain ⟨L, u, hm⟩ := gx_bind hm
   refine wV (elemP c (b.2.1.toNat * 1)) o (eI (n.r l 0) rfl u) (wE false 1 b.2.1.toNat 0 (b.2.1.toNat * 1) L ((b.1.tmod 3) == 0) (.bool ((b.1.tmod 3) == 0)) 0 l n (gxIdx_spec u).2 fun x J G y => LX 0 c d b.2.2 b.2.1.toNat ((b.1.tmod 3) == 0) (LX 12 c d b.2.2 b.2.1.toNat ((b.1.tmod 3) == 0) (NO (GR (MW 3 (NG (wR 3 [(0, .slice c (b.2.2.set b.2.1.toNat ((b.1.tmod 3) == 0)).length d), (1, iv (w64 (b.1 + 1))), (5, iv (w64 (b.2.1 + 1)))] x (WN ?_))))))))
   cases hm
   exact N_loop fun a ha => ⟨_, rfl, J, G, (List.length_set.trans t), y.pk [0], ha.s⟩
  refine gF m (XA ?_)
  obtain rfl := HS hm
  obtain rfl := H _ rfl
  exact N_meet fun a ha => ⟨i, n, t, l.pk [0], ha.s⟩
 intro O K ⟨j, F, C, z, B⟩
 refine N_use B ?_
 have hm := D
 refine NF (wR 2 [(4, iv h.1)] K (NC ?_))
 obtain rfl := HS hm
 exact RA [iv h.1] (⟨j, rfl, F, C, z.pk [0]⟩)
theorem c_l_markIntS (w : World) (g : List Int) (c : Option Addr) (d : Nat) (f : Seg) (E : ownS Gx.encI g c d f) (k : Int) (hA : ∀ q ∈ List.flatten [f], w.heap[q.1]? = some q.2) (hN : (idsOf [f]).Nodup) {r : Int × (List Int)} (hm : M.l_markIntS g k = some r) :
  Calls Tryz.prog 21 #[.slice c g.length d, iv k] w fun e w' => ∃ (v : Seg), e = .returned (iv r.1) ∧ ownS Gx.encI r.2 c d v ∧ r.2.length = g.length ∧ Mem (idsOf [f]) w w' [v] := by
 unfold M.l_markIntS at hm
 refine cE Tryz.func21 ?_
 have M0 := Mem.start' w [f] hA hN
 refine QA (MW 1 (NB (wR 1 [(0, .slice c g.length d), (1, iv k), (5, iv 0)] w (NO ?_))))
 obtain ⟨h, I, D⟩ := gx_bind hm
 refine G_meet (fun a w' => ∃ (j : Seg), ownS Gx.encI h.2 c d j ∧ h.2.length = g.length ∧ Mem (idsOf [f]) w w' [j] ∧ Sat Tryz.f21.ntmps [(1, iv h.1)] a) ?_ ?_
 ·refine GB (G_while (σ := Int × Int × List Int) (ρ := Int × List Int) (fun b a w' => ∃ (i : Seg), ownS Gx.encI b.2.2 c d i ∧ b.2.2.length = g.length ∧ Mem (idsOf [f]) w w' [i] ∧ Sat Tryz.f21.ntmps [(0, .slice c b.2.2.length d), (1, iv b.1), (5, iv b.2.1)] a) I (fun a ha => ⟨f, E, rfl, M0.pk [0], ha.s⟩) ?_)
  clear hm
  intro b P hm H N o ⟨i, n, t, l, A⟩
  refine G_use A (QB (wR 4 [(0, .slice c b.2.2.length d), (1, iv b.1), (5, iv b.2.1), (9, .bool (decide (b.2.1 < (b.2.2.length : Int))))] o (NO ?_)))
  rcases gx_bif hm with ⟨m, hm⟩ | ⟨m, hm⟩
  ·refine gT m (KD (wR 3 [(0, .slice c b.2.2.length d), (1, iv b.1), (5, iv b.2.1), (12, .slice c b.2.2.length d), (13, iv b.2.1), (14, iv b.1)] o ?_))
   obtain ⟨L, u, hm⟩ := gx_bind hm
   refine wV (elemP c (b.2.1.toNat * 1)) o (eI (n.r l 0) rfl u) (wE false 1 b.2.1.toNat 0 (b.2.1.toNat * 1) L b.1 (iv b.1) 0 l n (gxIdx_spec u).2 fun x J G y => LX 0 c d b.2.2 b.2.1.toNat b.1 (LX 12 c d b.2.2 b.2.1.toNat b.1 (NO (GR (MW 3 (NG (wR 3 [(0, .slice c (b.2.2.set b.2.1.toNat b.1).length d), (1, iv (w64 (b.1 + 1))), (5, iv (w64 (b.2.1 + 1)))] x (WN ?_))))))))
   cases hm
   exact N_loop fun a ha => ⟨_, rfl, J, G, (List.length_set.trans t), y.pk [0], ha.s⟩
  refine gF m (XA ?_)
  obtain rfl := HS hm
  obtain rfl := H _ rfl
  exact N_meet fun a ha => ⟨i, n, t, l.pk [0], ha.s⟩
 intro O K ⟨j, F, C, z, B⟩
 refine N_use B ?_
 have hm := D
 refine NF (wR 2 [(4, iv h.1)] K (NC ?_))
 obtain rfl := HS hm
 exact RA [iv h.1] (⟨j, rfl, F, C, z.pk [0]⟩)
theorem c_l_markSlotS (w : World) (h : List Slot) (d : Option Addr) (f : Nat) (g : Seg) (O : ownS encSlot h d f g) (v : Int) (hA : ∀ q ∈ List.flatten [g], w.heap[q.1]? = some q.2) (hN : (idsOf [g]).Nodup) {r : Int × (List Slot)} (hm : M.l_markSlotS h v = some r) :
  Calls Tryz.prog 125 #[.slice d h.length f, iv v] w fun e w' => ∃ (F : Seg), e = .returned (iv r.1) ∧ ownS encSlot r.2 d f F ∧ r.2.length = h.length ∧ Mem (idsOf [g]) w w' [F] := by
 unfold M.l_markSlotS at hm
 refine cE Tryz.func125 ?_
 have M0 := Mem.start' w [g] hA hN
 refine QA (MW 1 (NB (wR 1 [(0, .slice d h.length f), (1, iv v), (5, iv 0)] w (NO ?_))))
 obtain ⟨i, S, N⟩ := gx_bind hm
 refine G_meet (fun a w' => ∃ (n : Seg), ownS encSlot i.2 d f n ∧ i.2.length = h.length ∧ Mem (idsOf [g]) w w' [n] ∧ Sat Tryz.f125.ntmps [(1, iv i.1)] a) ?_ ?_
 ·refine GB (G_while (σ := Int × Int × List Slot) (ρ := Int × List Slot) (fun b a w' => ∃ (m : Seg), ownS encSlot b.2.2 d f m ∧ b.2.2.length = h.length ∧ Mem (idsOf [g]) w w' [m] ∧ Sat Tryz.f125.ntmps [(0, .slice d b.2.2.length f), (1, iv b.1), (5, iv b.2.1)] a) S (fun a ha => ⟨g, O, rfl, M0.pk [0], ha.s⟩) ?_)
  clear hm
  intro b ac hm R X o ⟨m, k, E, j, J⟩
  refine G_use J (QB (wR 4 [(0, .slice d b.2.2.length f), (1, iv b.1), (5, iv b.2.1), (9, .bool (decide (b.2.1 < (b.2.2.length : Int))))] o (NO ?_)))
  rcases gx_bif hm with ⟨z, hm⟩ | ⟨z, hm⟩
  ·refine gT z (KD (wR 3 [(0, .slice d b.2.2.length f), (1, iv b.1), (5, iv b.2.1), (12, .slice d b.2.2.length f), (13, iv b.2.1), (14, iv b.1)] o ?_))
   obtain ⟨c, l, hm⟩ := gx_bind hm
   refine wV (elemP d (b.2.1.toNat * 3)) o (eI (k.r j 0) rfl l) (wV (elemP d (b.2.1.toNat * 3 + 0)) o (eF 0 (b.2.1.toNat * 3) 0 (k.r j 0) l) (wE false 1 b.2.1.toNat 0 (b.2.1.toNat * 3 + 0) c (⟨b.1, c.Irq, c.Priority⟩ : Slot) (iv b.1) 0 j k (gxIdx_spec l).2 ?_))
   intro t aa A x
   have C := gxIdx_put (⟨b.1, c.Irq, c.Priority⟩ : Slot) l
   refine LX 0 d f b.2.2 b.2.1.toNat (⟨b.1, c.Irq, c.Priority⟩ : Slot) (LX 12 d f b.2.2 b.2.1.toNat (⟨b.1, c.Irq, c.Priority⟩ : Slot) (NA (MW 3 (NA (wR 3 [(0, .slice d (b.2.2.set b.2.1.toNat (⟨b.1, c.Irq, c.Priority⟩ : Slot)).length f), (1, iv (w64 (b.1 + 1))), (5, iv b.2.1), (19, .slice d (b.2.2.set b.2.1.toNat (⟨b.1, c.Irq, c.Priority⟩ : Slot)).length f), (20, iv b.2.1), (21, iv (w64 (b.1 + 1)))] t ?_)))))
   obtain ⟨ad, T, hm⟩ := gx_bind hm
   refine wV (elemP d (b.2.1.toNat * 3)) t (eI (A.r x 0) rfl T) (wV (elemP d (b.2.1.toNat * 3 + 1)) t (eF 1 (b.2.1.toNat * 3) 1 (A.r x 0) C) (wE false 1 b.2.1.toNat 1 (b.2.1.toNat * 3 + 1) (⟨b.1, c.Irq, c.Priority⟩ : Slot) (⟨(⟨b.1, c.Irq, c.Priority⟩ : Slot).State, w64 (b.1 + 1), (⟨b.1, c.Irq, c.Priority⟩ : Slot).Priority⟩ : Slot) (iv (w64 (b.1 + 1))) 0 x A (gxIdx_spec C).2 ?_))
   intro u ab B y
   have D := gxIdx_put (⟨(⟨b.1, c.Irq, c.Priority⟩ : Slot).State, w64 (b.1 + 1), (⟨b.1, c.Irq, c.Priority⟩ : Slot).Priority⟩ : Slot) C
   refine LX 0 d f (b.2.2.set b.2.1.toNat (⟨b.1, c.Irq, c.Priority⟩ : Slot)) b.2.1.toNat (⟨(⟨b.1, c.Irq, c.Priority⟩ : Slot).State, w64 (b.1 + 1), (⟨b.1, c.Irq, c.Priority⟩ : Slot).Priority⟩ : Slot) (LX 19 d f (b.2.2.set b.2.1.toNat (⟨b.1, c.Irq, c.Priority⟩ : Slot)) b.2.1.toNat (⟨(⟨b.1, c.Irq, c.Priority⟩ : Slot).State, w64 (b.1 + 1), (⟨b.1, c.Irq, c.Priority⟩ : Slot).Priority⟩ : Slot) (NA (MW 3 (NA (wR 3 [(0, .slice d ((b.2.2.set b.2.1.toNat (⟨b.1, c.Irq, c.Priority⟩ : Slot)).set b.2.1.toNat (⟨(⟨b.1, c.Irq, c.Priority⟩ : Slot).State, w64 (b.1 + 1), (⟨b.1, c.Irq, c.Priority⟩ : Slot).Priority⟩ : Slot)).length f), (1, iv (w64 ((w64 (b.1 + 1)) + 1))), (5, iv b.2.1), (26, .slice d ((b.2.2.set b.2.1.toNat (⟨b.1, c.Irq, c.Priority⟩ : Slot)).set b.2.1.toNat (⟨(⟨b.1, c.Irq, c.Priority⟩ : Slot).State, w64 (b.1 + 1), (⟨b.1, c.Irq, c.Priority⟩ : Slot).Priority⟩ : Slot)).length f), (27, iv b.2.1), (28, iv (w64 ((w64 (b.1 + 1)) + 1)))] u ?_)))))
   obtain ⟨ae, U, hm⟩ := gx_bind hm
   refine wV (elemP d (b.2.1.toNat * 3)) u (eI (B.r y 0) rfl U) (wV (elemP d (b.2.1.toNat * 3 + 2)) u (eF 2 (b.2.1.toNat * 3) 2 (B.r y 0) D) (wE false 1 b.2.1.toNat 2 (b.2.1.toNat * 3 + 2) (⟨(⟨b.1, c.Irq, c.Priority⟩ : Slot).State, w64 (b.1 + 1), (⟨b.1, c.Irq, c.Priority⟩ : Slot).Priority⟩ : Slot) (⟨(⟨(⟨b.1, c.Irq, c.Priority⟩ : Slot).State, w64 (b.1 + 1), (⟨b.1, c.Irq, c.Priority⟩ : Slot).Priority⟩ : Slot).State, (⟨(⟨b.1, c.Irq, c.Priority⟩ : Slot).State, w64 (b.1 + 1), (⟨b.1, c.Irq, c.Priority⟩ : Slot).Priority⟩ : Slot).Irq, w64 ((w64 (b.1 + 1)) + 1)⟩ : Slot) (iv (w64 ((w64 (b.1 + 1)) + 1))) 0 y B (gxIdx_spec D).2 ?_))
   intro G V Q H
   have Z := gxIdx_put (⟨(⟨(⟨b.1, c.Irq, c.Priority⟩ : Slot).State, w64 (b.1 + 1), (⟨b.1, c.Irq, c.Priority⟩ : Slot).Priority⟩ : Slot).State, (⟨(⟨b.1, c.Irq, c.Priority⟩ : Slot).State, w64 (b.1 + 1), (⟨b.1, c.Irq, c.Priority⟩ : Slot).Priority⟩ : Slot).Irq, w64 ((w64 (b.1 + 1)) + 1)⟩ : Slot) D
   refine LX 0 d f ((b.2.2.set b.2.1.toNat (⟨b.1, c.Irq, c.Priority⟩ : Slot)).set b.2.1.toNat (⟨(⟨b.1, c.Irq, c.Priority⟩ : Slot).State, w64 (b.1 + 1), (⟨b.1, c.Irq, c.Priority⟩ : Slot).Priority⟩ : Slot)) b.2.1.toNat (⟨(⟨(⟨b.1, c.Irq, c.Priority⟩ : Slot).State, w64 (b.1 + 1), (⟨b.1, c.Irq, c.Priority⟩ : Slot).Priority⟩ : Slot).State, (⟨(⟨b.1, c.Irq, c.Priority⟩ : Slot).State, w64 (b.1 + 1), (⟨b.1, c.Irq, c.Priority⟩ : Slot).Priority⟩ : Slot).Irq, w64 ((w64 (b.1 + 1)) + 1)⟩ : Slot) (LX 26 d f ((b.2.2.set b.2.1.toNat (⟨b.1, c.Irq, c.Priority⟩ : Slot)).set b.2.1.toNat (⟨(⟨b.1, c.Irq, c.Priority⟩ : Slot).State, w64 (b.1 + 1), (⟨b.1, c.Irq, c.Priority⟩ : Slot).Priority⟩ : Slot)) b.2.1.toNat (⟨(⟨(⟨b.1, c.Irq, c.Priority⟩ : Slot).State, w64 (b.1 + 1), (⟨b.1, c.Irq, c.Priority⟩ : Slot).Priority⟩ : Slot).State, (⟨(⟨b.1, c.Irq, c.Priority⟩ : Slot).State, w64 (b.1 + 1), (⟨b.1, c.Irq, c.Priority⟩ : Slot).Priority⟩ : Slot).Irq, w64 ((w64 (b.1 + 1)) + 1)⟩ : Slot) (NO (GR (MW 3 (NG (wR 3 [(0, .slice d (((b.2.2.set b.2.1.toNat (⟨b.1, c.Irq, c.Priority⟩ : Slot)).set b.2.1.toNat (⟨(⟨b.1, c.Irq, c.Priority⟩ : Slot).State, w64 (b.1 + 1), (⟨b.1, c.Irq, c.Priority⟩ : Slot).Priority⟩ : Slot)).set b.2.1.toNat (⟨(⟨(⟨b.1, c.Irq, c.Priority⟩ : Slot).State, w64 (b.1 + 1), (⟨b.1, c.Irq, c.Priority⟩ : Slot).Priority⟩ : Slot).State, (⟨(⟨b.1, c.Irq, c.Priority⟩ : Slot).State, w64 (b.1 + 1), (⟨b.1, c.Irq, c.Priority⟩ : Slot).Priority⟩ : Slot).Irq, w64 ((w64 (b.1 + 1)) + 1)⟩ : Slot)).length f), (1, iv (w64 ((w64 ((w64 (b.1 + 1)) + 1)) + 1))), (5, iv (w64 (b.2.1 + 1)))] G (WN ?_)))))))
   cases hm
   exact N_loop fun a ha => ⟨_, rfl, V, Q, (List.length_set.trans (List.length_set.trans (List.length_set.trans E))), H.pk [0], ha.s⟩
  refine gF z (XA ?_)
  obtain rfl := HS hm
  obtain rfl := R _ rfl
  exact N_meet fun a ha => ⟨m, k, E, j.pk [0], ha.s⟩
 intro Y W ⟨n, P, L, I, K⟩
 refine N_use K ?_
 have hm := N
 refine NF (wR 2 [(4, iv i.1)] W (NC ?_))
 obtain rfl := HS hm
 exact RA [iv i.1] (⟨n, rfl, P, L, I.pk [0]⟩)
theorem c_l_markWaiterS (w : World) (h : List Waiter) (c : Option Addr) (f : Nat) (g : Seg) (J : ownS encWaiter h c f g) (u : Int) (hA : ∀ q ∈ List.flatten [g], w.heap[q.1]? = some q.2) (hN : (idsOf [g]).Nodup) {r : Int × (List Waiter)} (hm : M.l_markWaiterS h u = some r) :
  Calls Tryz.prog 126 #[.slice c h.length f, iv u] w fun e w' => ∃ (B : Seg), e = .returned (iv r.1) ∧ ownS encWaiter r.2 c f B ∧ r.2.length = h.length ∧ Mem (idsOf [g]) w w' [B] := by
 unfold M.l_markWaiterS at hm
 refine cE Tryz.func126 ?_
 have M0 := Mem.start' w [g] hA hN
 refine QA (MW 1 (NB (wR 1 [(0, .slice c h.length f), (1, iv u), (5, iv 0)] w (NO ?_))))
 obtain ⟨i, O, I⟩ := gx_bind hm
 refine G_meet (fun a w' => ∃ (n : Seg), ownS encWaiter i.2 c f n ∧ i.2.length = h.length ∧ Mem (idsOf [g]) w w' [n] ∧ Sat Tryz.f126.ntmps [(1, iv i.1)] a) ?_ ?_
 ·refine GB (G_while (σ := Int × Int × List Waiter) (ρ := Int × List Waiter) (fun b a w' => ∃ (m : Seg), ownS encWaiter b.2.2 c f m ∧ b.2.2.length = h.length ∧ Mem (idsOf [g]) w w' [m] ∧ Sat Tryz.f126.ntmps [(0, .slice c b.2.2.length f), (1, iv b.1), (5, iv b.2.1)] a) O (fun a ha => ⟨g, J, rfl, M0.pk [0], ha.s⟩) ?_)
  clear hm
  intro b W hm N S o ⟨m, k, A, j, F⟩
  refine G_use F (QB (wR 4 [(0, .slice c b.2.2.length f), (1, iv b.1), (5, iv b.2.1), (9, .bool (decide (b.2.1 < (b.2.2.length : Int))))] o (NO ?_)))
  rcases gx_bif hm with ⟨x, hm⟩ | ⟨x, hm⟩
  ·refine gT x (KD (wR 3 [(0, .slice c b.2.2.length f), (1, iv b.1), (5, iv b.2.1), (12, .slice c b.2.2.length f), (13, iv b.2.1), (14, iv b.1)] o ?_))
   obtain ⟨d, l, hm⟩ := gx_bind hm
   refine wV (elemP c (b.2.1.toNat * 2)) o (eI (k.r j 0) rfl l) (wV (elemP c (b.2.1.toNat * 2 + 0)) o (eF 0 (b.2.1.toNat * 2) 0 (k.r j 0) l) (wE false 1 b.2.1.toNat 0 (b.2.1.toNat * 2 + 0) d (⟨b.1, d.Priority⟩ : Waiter) (iv b.1) 0 j k (gxIdx_spec l).2 ?_))
   intro t V y v
   have z := gxIdx_put (⟨b.1, d.Priority⟩ : Waiter) l
   refine LX 0 c f b.2.2 b.2.1.toNat (⟨b.1, d.Priority⟩ : Waiter) (LX 12 c f b.2.2 b.2.1.toNat (⟨b.1, d.Priority⟩ : Waiter) (NA (MW 3 (NA (wR 3 [(0, .slice c (b.2.2.set b.2.1.toNat (⟨b.1, d.Priority⟩ : Waiter)).length f), (1, iv (w64 (b.1 + 1))), (5, iv b.2.1), (19, .slice c (b.2.2.set b.2.1.toNat (⟨b.1, d.Priority⟩ : Waiter)).length f), (20, iv b.2.1), (21, iv (w64 (b.1 + 1)))] t ?_)))))
   obtain ⟨X, P, hm⟩ := gx_bind hm
   refine wV (elemP c (b.2.1.toNat * 2)) t (eI (y.r v 0) rfl P) (wV (elemP c (b.2.1.toNat * 2 + 1)) t (eF 1 (b.2.1.toNat * 2) 1 (y.r v 0) z) (wE false 1 b.2.1.toNat 1 (b.2.1.toNat * 2 + 1) (⟨b.1, d.Priority⟩ : Waiter) (⟨(⟨b.1, d.Priority⟩ : Waiter).Irq, w64 (b.1 + 1)⟩ : Waiter) (iv (w64 (b.1 + 1))) 0 v y (gxIdx_spec z).2 ?_))
   intro C Q L D
   have U := gxIdx_put (⟨(⟨b.1, d.Priority⟩ : Waiter).Irq, w64 (b.1 + 1)⟩ : Waiter) z
   refine LX 0 c f (b.2.2.set b.2.1.toNat (⟨b.1, d.Priority⟩ : Waiter)) b.2.1.toNat (⟨(⟨b.1, d.Priority⟩ : Waiter).Irq, w64 (b.1 + 1)⟩ : Waiter) (LX 19 c f (b.2.2.set b.2.1.toNat (⟨b.1, d.Priority⟩ : Waiter)) b.2.1.toNat (⟨(⟨b.1, d.Priority⟩ : Waiter).Irq, w64 (b.1 + 1)⟩ : Waiter) (NO (GR (MW 3 (NG (wR 3 [(0, .slice c ((b.2.2.set b.2.1.toNat (⟨b.1, d.Priority⟩ : Waiter)).set b.2.1.toNat (⟨(⟨b.1, d.Priority⟩ : Waiter).Irq, w64 (b.1 + 1)⟩ : Waiter)).length f), (1, iv (w64 ((w64 (b.1 + 1)) + 1))), (5, iv (w64 (b.2.1 + 1)))] C (WN ?_)))))))
   cases hm
   exact N_loop fun a ha => ⟨_, rfl, Q, L, (List.length_set.trans (List.length_set.trans A)), D.pk [0], ha.s⟩
  refine gF x (XA ?_)
  obtain rfl := HS hm
  obtain rfl := N _ rfl
  exact N_meet fun a ha => ⟨m, k, A, j.pk [0], ha.s⟩
 intro T R ⟨n, K, H, E, G⟩
 refine N_use G ?_
 have hm := I
 refine NF (wR 2 [(4, iv i.1)] R (NC ?_))
 obtain rfl := HS hm
 exact RA [iv i.1] (⟨n, rfl, K, H, E.pk [0]⟩)
theorem c_l_markInterfaceS (w : World) (A : List Interface) (g : Option Addr) (h : Nat) (t : Seg) (u : Seg) (b5 : ownD deepInterface A g h t u) (am : Int) (hA : ∀ q ∈ List.flatten [t, u], w.heap[q.1]? = some q.2) (hN : (idsOf [t, u]).Nodup) {r : Int × (List Interface)} (hm : M.l_markInterfaceS A am = some r) :
  Calls Tryz.prog 70 #[.slice g A.length h, iv am] w fun e w' => ∃ (a4 : Seg) (a5 : Seg), e = .returned (iv r.1) ∧ ownD deepInterface r.2 g h a4 a5 ∧ r.2.length = A.length ∧ Mem (idsOf [t, u]) w w' [a4, a5] := by
 unfold M.l_markInterfaceS at hm
 refine cE Tryz.func70 ?_
 have M0 := Mem.start' w [t, u] hA hN
 refine QA (MW 1 (NB (wR 1 [(0, .slice g A.length h), (1, iv am), (5, iv 0)] w (NO ?_))))
 obtain ⟨K, dd, b4⟩ := gx_bind hm
 refine G_meet (fun a w' => ∃ (ad : Seg), ∃ (ae : Seg), ownD deepInterface K.2 g h ad ae ∧ K.2.length = A.length ∧ Mem (idsOf [t, u]) w w' [ad, ae] ∧ Sat Tryz.f70.ntmps [(1, iv K.1)] a) ?_ ?_
 ·refine GB (G_while (σ := Int × Int × List Interface) (ρ := Int × List Interface) (fun b a w' => ∃ (ac : Seg), ∃ (O : Seg), ownD deepInterface b.2.2 g h ac O ∧ b.2.2.length = A.length ∧ Mem (idsOf [t, u]) w w' [ac, O] ∧ Sat Tryz.f70.ntmps [(0, .slice g b.2.2.length h), (1, iv b.1), (5, iv b.2.1)] a) dd (fun a ha => ⟨t, u, b5, rfl, M0.pk [0, 1], ha.s⟩) ?_)
  clear hm
  intro b d5 hm co dw ak ⟨ac, O, a3, a0, R, bt⟩
  refine G_use bt (QB (wR 4 [(0, .slice g b.2.2.length h), (1, iv b.1), (5, iv b.2.1), (9, .bool (decide (b.2.1 < (b.2.2.length : Int))))] ak (NO ?_)))
  rcases gx_bif hm with ⟨ar, hm⟩ | ⟨ar, hm⟩
  ·refine gT ar (KD (wR 3 [(0, .slice g b.2.2.length h), (1, iv b.1), (5, iv b.2.1), (12, .slice g b.2.2.length h), (13, iv b.2.1), (14, iv b.1)] ak ?_))
   obtain ⟨c, de, hm⟩ := gx_bind hm
   obtain ⟨d6, U, ax, bz⟩ := id a3
   obtain ⟨aq, H⟩ := gxIdx_fst U de
   refine wV (elemP g (b.2.1.toNat * 4)) ak (eI (ax.r R 0) (len_fst U) H) (wV (elemP g (b.2.1.toNat * 4 + 0)) ak (eF 0 (b.2.1.toNat * 4) 0 (ax.r R 0) H) (wE false 1 b.2.1.toNat 0 (b.2.1.toNat * 4 + 0) (c, aq) ((⟨b.1, c.Stack, c.Queue⟩ : Interface), aq) (iv b.1) 0 R ax (gxIdx_spec H).2 ?_))
   intro D x b7 S
   have b8 : ownD deepInterface (b.2.2.set b.2.1.toNat (⟨b.1, c.Stack, c.Queue⟩ : Interface)) g h x O := ⟨_, set_fst U b.2.1.toNat ((⟨b.1, c.Stack, c.Queue⟩ : Interface), aq), b7, (by rw [flatMap_setSame (gxIdx_spec H).2 (by kernel_rfl)]; exact bz)⟩
   have dy := gxIdx_put (⟨b.1, c.Stack, c.Queue⟩ : Interface) (gxIdx_down U H)
   refine LX 0 g h b.2.2 b.2.1.toNat (⟨b.1, c.Stack, c.Queue⟩ : Interface) (LX 12 g h b.2.2 b.2.1.toNat (⟨b.1, c.Stack, c.Queue⟩ : Interface) (NA (MW 3 (NA (wR 2 [(0, .slice g (b.2.2.set b.2.1.toNat (⟨b.1, c.Stack, c.Queue⟩ : Interface)).length h), (1, iv (w64 (b.1 + 1))), (5, iv b.2.1), (19, .slice g (b.2.2.set b.2.1.toNat (⟨b.1, c.Stack, c.Queue⟩ : Interface)).length h), (20, iv b.2.1)] D ?_)))))
   obtain ⟨d, df, hm⟩ := gx_bind hm
   obtain ⟨d7, V, T, b0⟩ := id b8
   obtain ⟨l, E⟩ := gxIdx_fst V df
   refine wV (elemP g (b.2.1.toNat * 4)) D (eI (T.r S 0) (len_fst V) E) (wV (elemP g (b.2.1.toNat * 4 + 1)) D (eF 1 (b.2.1.toNat * 4) 1 (T.r S 0) E) (wV (.slice ((l 0).1) d.Stack.length ((l 0).2)) D (eE false 1 1 (b.2.1.toNat * 4 + 1) (T.r S 0) E) (wR 1 [(0, .slice g (b.2.2.set b.2.1.toNat (⟨b.1, c.Stack, c.Queue⟩ : Interface)).length h), (1, iv (w64 (b.1 + 1))), (5, iv b.2.1), (23, .slice ((l 0).1) d.Stack.length ((l 0).2)), (24, iv (w64 (b.1 + 1)))] D ?_)))
   obtain ⟨Y, ds, aa, c1, bv, cp⟩ := b0.lens (gxIdx_spec E).2
   have bc := S.cut 1 (sa := Y) (sb := ds) (sc := aa) c1 (by kernel_rfl)
   obtain ⟨a6, di, c4, b9, ct⟩ := bv
   have bd := bc.cut 2 (sa := []) (sb := a6) (sc := di) c4 (by kernel_rfl)
   obtain ⟨ag, dj, c5, ca, cu⟩ := ct
   have be := bd.cut 5 (sa := []) (sb := ag) (sc := dj) c5 (by kernel_rfl)
   obtain ⟨ah, dk, c6, cb, d2⟩ := cu
   have an := be.cut 7 (sa := []) (sb := ah) (sc := dk) c6 (by kernel_rfl)
   obtain ⟨k, cs, hm⟩ := gx_bind hm
   refine WC ((c_l_markIntS D d.Stack ((l 0).1) ((l 0).2) a6 b9 (w64 (b.1 + 1)) (an.hasPick [4]) (an.nodupPick [4] (by kernel_rfl)) cs).mono ?_)
   rintro e_ y ⟨ay, rfl, cc, au, a9⟩
   have bf := an.callF' [4] [0, 1, 2, 3, 5, 6, 7, 8, 9] (by kernel_rfl) a9
   refine ⟨_, rfl, ?_⟩
   refine LY 23 ((l 0).1) ((l 0).2) au ?_
   have bg : Mem (idsOf [t, u]) w y [x, [], [], [], Y, ay, ag, ah, aa] := bf.pk [0, 2, 4, 6, 1, 9, 5, 7, 3]
   have F : Mem (idsOf [t, u]) w y [x, [], [], [], (Y ++ ((ay ++ (ag ++ (ah ++ []))) ++ aa))] := bg.regroup (by simp)
   have cd : ownD deepInterface ((b.2.2.set b.2.1.toNat (⟨b.1, c.Stack, c.Queue⟩ : Interface)).set b.2.1.toNat (⟨d.Mask, k.2, d.Queue⟩ : Interface)) g h x (Y ++ ((ay ++ (ag ++ (ah ++ []))) ++ aa)) := ⟨_, set_fst V b.2.1.toNat ((⟨d.Mask, k.2, d.Queue⟩ : Interface), l), (T.setSame (z' := ((⟨d.Mask, k.2, d.Queue⟩ : Interface), l)) (gxIdx_spec E).2 (by show ([iv d.Mask, .slice ((l 0).1) k.2.length ((l 0).2), .slice ((l 1).1) d.Queue.Slots.length ((l 1).2), .slice ((l 2).1) d.Queue.Waiting.length ((l 2).2)] : List Value) = [iv d.Mask, .slice ((l 0).1) d.Stack.length ((l 0).2), .slice ((l 1).1) d.Queue.Slots.length ((l 1).2), .slice ((l 2).1) d.Queue.Waiting.length ((l 2).2)]; rw [au])), cp ((⟨d.Mask, k.2, d.Queue⟩ : Interface), l) _ (ownI_cons (i := ⟨Int, Gx.encI, _, _, _⟩) cc (ownI_cons (i := ⟨Slot, encSlot, _, _, _⟩) ca (ownI_cons (i := ⟨Waiter, encWaiter, _, _, _⟩) cb ownI_nil)))⟩
   have dz := gxIdx_put (⟨d.Mask, k.2, d.Queue⟩ : Interface) (gxIdx_down V E)
   refine LX 0 g h (b.2.2.set b.2.1.toNat (⟨b.1, c.Stack, c.Queue⟩ : Interface)) b.2.1.toNat (⟨d.Mask, k.2, d.Queue⟩ : Interface) (MW 1 (NA (wR 2 [(0, .slice g ((b.2.2.set b.2.1.toNat (⟨b.1, c.Stack, c.Queue⟩ : Interface)).set b.2.1.toNat (⟨d.Mask, k.2, d.Queue⟩ : Interface)).length h), (1, iv k.1), (5, iv b.2.1), (26, .slice g ((b.2.2.set b.2.1.toNat (⟨b.1, c.Stack, c.Queue⟩ : Interface)).set b.2.1.toNat (⟨d.Mask, k.2, d.Queue⟩ : Interface)).length h), (27, iv b.2.1)] y ?_)))
   obtain ⟨f, dg, hm⟩ := gx_bind hm
   obtain ⟨d8, W, I, b1⟩ := id cd
   obtain ⟨m, B⟩ := gxIdx_fst W dg
   refine wV (elemP g (b.2.1.toNat * 4)) y (eI (I.r F 0) (len_fst W) B) (wV (elemP g (b.2.1.toNat * 4 + 2)) y (eF 2 (b.2.1.toNat * 4) 2 (I.r F 0) B) (wV (elemP g (b.2.1.toNat * 4 + 2 + 0)) y (eF 0 (b.2.1.toNat * 4 + 2) 0 (I.r F 0) B) (wV (.slice ((m 1).1) f.Queue.Slots.length ((m 1).2)) y (eE false 1 2 (b.2.1.toNat * 4 + 2 + 0) (I.r F 0) B) (wR 1 [(0, .slice g ((b.2.2.set b.2.1.toNat (⟨b.1, c.Stack, c.Queue⟩ : Interface)).set b.2.1.toNat (⟨d.Mask, k.2, d.Queue⟩ : Interface)).length h), (1, iv k.1), (5, iv b.2.1), (31, .slice ((m 1).1) f.Queue.Slots.length ((m 1).2)), (32, iv k.1)] y ?_))))
   obtain ⟨Z, dt, ab, c2, bw, cq⟩ := b1.lens (gxIdx_spec B).2
   have bh := F.cut 4 (sa := Z) (sb := dt) (sc := ab) c2 (by kernel_rfl)
   obtain ⟨ai, dl, c7, ce, cw⟩ := bw
   have bi := bh.cut 5 (sa := []) (sb := ai) (sc := dl) c7 (by kernel_rfl)
   obtain ⟨a7, dm, c8, cf, cx⟩ := cw
   have bj := bi.cut 8 (sa := []) (sb := a7) (sc := dm) c8 (by kernel_rfl)
   obtain ⟨aj, dn, c9, cg, d3⟩ := cx
   have ao := bj.cut 10 (sa := []) (sb := aj) (sc := dn) c9 (by kernel_rfl)
   obtain ⟨o, cv, hm⟩ := gx_bind hm
   refine WC ((c_l_markSlotS y f.Queue.Slots ((m 1).1) ((m 1).2) a7 cf k.1 (ao.hasPick [9]) (ao.nodupPick [9] (by kernel_rfl)) cv).mono ?_)
   rintro e_ z ⟨az, rfl, ch, av, ba⟩
   have bk := ao.callF' [9] [0, 1, 2, 3, 4, 5, 6, 7, 8, 10, 11, 12] (by kernel_rfl) ba
   refine ⟨_, rfl, ?_⟩
   refine LY 31 ((m 1).1) ((m 1).2) av ?_
   have bl : Mem (idsOf [t, u]) w z [x, [], [], [], [], [], [], Z, ai, az, aj, ab] := bk.pk [0, 1, 2, 3, 5, 8, 9, 4, 7, 12, 10, 6]
   have G : Mem (idsOf [t, u]) w z [x, [], [], [], [], [], [], (Z ++ ((ai ++ (az ++ (aj ++ []))) ++ ab))] := bl.regroup (by simp)
   have ci : ownD deepInterface (((b.2.2.set b.2.1.toNat (⟨b.1, c.Stack, c.Queue⟩ : Interface)).set b.2.1.toNat (⟨d.Mask, k.2, d.Queue⟩ : Interface)).set b.2.1.toNat (⟨f.Mask, f.Stack, (⟨o.2, f.Queue.Waiting⟩ : Queue)⟩ : Interface)) g h x (Z ++ ((ai ++ (az ++ (aj ++ []))) ++ ab)) := ⟨_, set_fst W b.2.1.toNat ((⟨f.Mask, f.Stack, (⟨o.2, f.Queue.Waiting⟩ : Queue)⟩ : Interface), m), (I.setSame (z' := ((⟨f.Mask, f.Stack, (⟨o.2, f.Queue.Waiting⟩ : Queue)⟩ : Interface), m)) (gxIdx_spec B).2 (by show ([iv f.Mask, .slice ((m 0).1) f.Stack.length ((m 0).2), .slice ((m 1).1) o.2.length ((m 1).2), .slice ((m 2).1) f.Queue.Waiting.length ((m 2).2)] : List Value) = [iv f.Mask, .slice ((m 0).1) f.Stack.length ((m 0).2), .slice ((m 1).1) f.Queue.Slots.length ((m 1).2), .slice ((m 2).1) f.Queue.Waiting.length ((m 2).2)]; rw [av])), cq ((⟨f.Mask, f.Stack, (⟨o.2, f.Queue.Waiting⟩ : Queue)⟩ : Interface), m) _ (ownI_cons (i := ⟨Int, Gx.encI, _, _, _⟩) ce (ownI_cons (i := ⟨Slot, encSlot, _, _, _⟩) ch (ownI_cons (i := ⟨Waiter, encWaiter, _, _, _⟩) cg ownI_nil)))⟩
   have d0 := gxIdx_put (⟨f.Mask, f.Stack, (⟨o.2, f.Queue.Waiting⟩ : Queue)⟩ : Interface) (gxIdx_down W B)
   refine LX 0 g h ((b.2.2.set b.2.1.toNat (⟨b.1, c.Stack, c.Queue⟩ : Interface)).set b.2.1.toNat (⟨d.Mask, k.2, d.Queue⟩ : Interface)) b.2.1.toNat (⟨f.Mask, f.Stack, (⟨o.2, f.Queue.Waiting⟩ : Queue)⟩ : Interface) (MW 1 (NO (GR (wR 2 [(0, .slice g (((b.2.2.set b.2.1.toNat (⟨b.1, c.Stack, c.Queue⟩ : Interface)).set b.2.1.toNat (⟨d.Mask, k.2, d.Queue⟩ : Interface)).set b.2.1.toNat (⟨f.Mask, f.Stack, (⟨o.2, f.Queue.Waiting⟩ : Queue)⟩ : Interface)).length h), (1, iv o.1), (5, iv b.2.1), (34, .slice g (((b.2.2.set b.2.1.toNat (⟨b.1, c.Stack, c.Queue⟩ : Interface)).set b.2.1.toNat (⟨d.Mask, k.2, d.Queue⟩ : Interface)).set b.2.1.toNat (⟨f.Mask, f.Stack, (⟨o.2, f.Queue.Waiting⟩ : Queue)⟩ : Interface)).length h), (35, iv b.2.1)] z ?_))))
   obtain ⟨j, dh, hm⟩ := gx_bind hm
   obtain ⟨d9, X, J, b2⟩ := id ci
   obtain ⟨n, C⟩ := gxIdx_fst X dh
   refine wV (elemP g (b.2.1.toNat * 4)) z (eI (J.r G 0) (len_fst X) C) (wV (elemP g (b.2.1.toNat * 4 + 2)) z (eF 2 (b.2.1.toNat * 4) 2 (J.r G 0) C) (wV (elemP g (b.2.1.toNat * 4 + 2 + 1)) z (eF 1 (b.2.1.toNat * 4 + 2) 1 (J.r G 0) C) (wV (.slice ((n 2).1) j.Queue.Waiting.length ((n 2).2)) z (eE false 1 3 (b.2.1.toNat * 4 + 2 + 1) (J.r G 0) C) (wR 1 [(0, .slice g (((b.2.2.set b.2.1.toNat (⟨b.1, c.Stack, c.Queue⟩ : Interface)).set b.2.1.toNat (⟨d.Mask, k.2, d.Queue⟩ : Interface)).set b.2.1.toNat (⟨f.Mask, f.Stack, (⟨o.2, f.Queue.Waiting⟩ : Queue)⟩ : Interface)).length h), (1, iv o.1), (5, iv b.2.1), (39, .slice ((n 2).1) j.Queue.Waiting.length ((n 2).2)), (40, iv o.1)] z ?_))))
   obtain ⟨L, du, N, c3, bx, cr⟩ := b2.lens (gxIdx_spec C).2
   have bm := G.cut 7 (sa := L) (sb := du) (sc := N) c3 (by kernel_rfl)
   obtain ⟨P, dp, da, cj, cz⟩ := bx
   have bn := bm.cut 8 (sa := []) (sb := P) (sc := dp) da (by kernel_rfl)
   obtain ⟨Q, dq, db, ck, c0⟩ := cz
   have bo := bn.cut 11 (sa := []) (sb := Q) (sc := dq) db (by kernel_rfl)
   obtain ⟨a8, dr, dc, cl, d4⟩ := c0
   have ap := bo.cut 13 (sa := []) (sb := a8) (sc := dr) dc (by kernel_rfl)
   obtain ⟨v, cy, hm⟩ := gx_bind hm
   refine WC ((c_l_markWaiterS z j.Queue.Waiting ((n 2).1) ((n 2).2) a8 cl o.1 (ap.hasPick [14]) (ap.nodupPick [14] (by kernel_rfl)) cy).mono ?_)
   rintro e_ al ⟨af, rfl, cm, aw, bb⟩
   have bp := ap.callF' [14] [0, 1, 2, 3, 4, 5, 6, 7, 8, 9, 10, 11, 12, 13, 15] (by kernel_rfl) bb
   refine ⟨_, rfl, ?_⟩
   refine LY 39 ((n 2).1) ((n 2).2) aw ?_
   have bq : Mem (idsOf [t, u]) w al [x, [], [], [], [], [], [], [], [], [], L, P, Q, af, N] := bp.pk [0, 1, 2, 3, 4, 5, 6, 8, 11, 13, 7, 10, 12, 15, 9]
   have br : Mem (idsOf [t, u]) w al [x, [], [], [], [], [], [], [], [], [], (L ++ ((P ++ (Q ++ (af ++ []))) ++ N))] := bq.regroup (by simp)
   have cn : ownD deepInterface ((((b.2.2.set b.2.1.toNat (⟨b.1, c.Stack, c.Queue⟩ : Interface)).set b.2.1.toNat (⟨d.Mask, k.2, d.Queue⟩ : Interface)).set b.2.1.toNat (⟨f.Mask, f.Stack, (⟨o.2, f.Queue.Waiting⟩ : Queue)⟩ : Interface)).set b.2.1.toNat (⟨j.Mask, j.Stack, (⟨j.Queue.Slots, v.2⟩ : Queue)⟩ : Interface)) g h x (L ++ ((P ++ (Q ++ (af ++ []))) ++ N)) := ⟨_, set_fst X b.2.1.toNat ((⟨j.Mask, j.Stack, (⟨j.Queue.Slots, v.2⟩ : Queue)⟩ : Interface), n), (J.setSame (z' := ((⟨j.Mask, j.Stack, (⟨j.Queue.Slots, v.2⟩ : Queue)⟩ : Interface), n)) (gxIdx_spec C).2 (by show ([iv j.Mask, .slice ((n 0).1) j.Stack.length ((n 0).2), .slice ((n 1).1) j.Queue.Slots.length ((n 1).2), .slice ((n 2).1) v.2.length ((n 2).2)] : List Value) = [iv j.Mask, .slice ((n 0).1) j.Stack.length ((n 0).2), .slice ((n 1).1) j.Queue.Slots.length ((n 1).2), .slice ((n 2).1) j.Queue.Waiting.length ((n 2).2)]; rw [aw])), cr ((⟨j.Mask, j.Stack, (⟨j.Queue.Slots, v.2⟩ : Queue)⟩ : Interface), n) _ (ownI_cons (i := ⟨Int, Gx.encI, _, _, _⟩) cj (ownI_cons (i := ⟨Slot, encSlot, _, _, _⟩) ck (ownI_cons (i := ⟨Waiter, encWaiter, _, _, _⟩) cm ownI_nil)))⟩
   have d1 := gxIdx_put (⟨j.Mask, j.Stack, (⟨j.Queue.Slots, v.2⟩ : Queue)⟩ : Interface) (gxIdx_down X C)
   refine LX 0 g h (((b.2.2.set b.2.1.toNat (⟨b.1, c.Stack, c.Queue⟩ : Interface)).set b.2.1.toNat (⟨d.Mask, k.2, d.Queue⟩ : Interface)).set b.2.1.toNat (⟨f.Mask, f.Stack, (⟨o.2, f.Queue.Waiting⟩ : Queue)⟩ : Interface)) b.2.1.toNat (⟨j.Mask, j.Stack, (⟨j.Queue.Slots, v.2⟩ : Queue)⟩ : Interface) (MW 1 (NG (wR 3 [(0, .slice g ((((b.2.2.set b.2.1.toNat (⟨b.1, c.Stack, c.Queue⟩ : Interface)).set b.2.1.toNat (⟨d.Mask, k.2, d.Queue⟩ : Interface)).set b.2.1.toNat (⟨f.Mask, f.Stack, (⟨o.2, f.Queue.Waiting⟩ : Queue)⟩ : Interface)).set b.2.1.toNat (⟨j.Mask, j.Stack, (⟨j.Queue.Slots, v.2⟩ : Queue)⟩ : Interface)).length h), (1, iv v.1), (5, iv (w64 (b.2.1 + 1)))] al (WN ?_))))
   cases hm
   exact N_loop fun a ha => ⟨_, rfl, x, (L ++ ((P ++ (Q ++ (af ++ []))) ++ N)), cn, (List.length_set.trans (List.length_set.trans (List.length_set.trans (List.length_set.trans a0)))), br.pk [0, 10], ha.s⟩
  refine gF ar (XA ?_)
  obtain rfl := HS hm
  obtain rfl := co _ rfl
  exact N_meet fun a ha => ⟨ac, O, a3, a0, R.pk [0, 1], ha.s⟩
 intro dx dv ⟨ad, ae, b6, b3, bs, bu⟩
 refine N_use bu ?_
 have hm := b4
 refine NF (wR 2 [(4, iv K.1)] dv (NC ?_))
 obtain rfl := HS hm
 exact RA [iv K.1] (⟨ad, ae, rfl, b6, b3, bs.pk [0, 1]⟩)
theorem c_l_markMachine (w : World) (a : Machine) (h : Option Addr) (c : Nat) (v : Seg) (ah : ownS encRoute a.Routes h c v) (i : Option Addr) (d : Nat) (t : Seg) (ai : ownS Gx.encB a.Enabled i d t) (j : Option Addr) (f : Nat) (n : Seg) (aj : ownS Gx.encB a.Raised j f n) (k : Option Addr) (g : Nat) (l : Seg) (m : Seg) (ak : ownD deepInterface a.Cpus k g l m) (y : Int) (hA : ∀ q ∈ List.flatten [v, t, n, l, m], w.heap[q.1]? = some q.2) (hN : (idsOf [v, t, n, l, m]).Nodup) {r : Int × (List Route) × (List Bool) × (List Bool) × (List Interface)} (hm : M.l_markMachine a y = some r) :
  Calls Tryz.prog 20 #[.agg #[.slice h a.Routes.length c, .slice i a.Enabled.length d, .slice j a.Raised.length f, .slice k a.Cpus.length g], iv y] w fun e w' => ∃ (R : Seg), ∃ (S : Seg), ∃ (T : Seg), ∃ (U : Seg) (V : Seg), e = .returned (iv r.1) ∧ ownS encRoute r.2.1 h c R ∧ r.2.1.length = a.Routes.length ∧ ownS Gx.encB r.2.2.1 i d S ∧ r.2.2.1.length = a.Enabled.length ∧ ownS Gx.encB r.2.2.2.1 j f T ∧ r.2.2.2.1.length = a.Raised.length ∧ ownD deepInterface r.2.2.2.2 k g U V ∧ r.2.2.2.2.length = a.Cpus.length ∧ Mem (idsOf [v, t, n, l, m]) w w' [R, S, T, U, V] := by
 unfold M.l_markMachine at hm
 refine cE Tryz.func20 ?_
 have M0 := Mem.start' w [v, t, n, l, m] hA hN
 refine QA (wN (.cells ⟨[.slice h a.Routes.length c, .slice i a.Enabled.length d, .slice j a.Raised.length f, .slice k a.Cpus.length g]⟩ 32 (0, 0)) M0 fun b E F => MW 1 (NA (MW 1 (wV (.slice h a.Routes.length c) E (eL false 1 0 (F.blk 5 rfl)) (wR 1 [(1, iv y), (2, pB b 0), (6, .slice h a.Routes.length c), (7, iv y)] E ?_)))))
 obtain ⟨o, ap, hm⟩ := gx_bind hm
 refine WC ((c_l_markRouteS E a.Routes h c v ah y (F.hasPick [0]) (F.nodupPick [0] (by kernel_rfl)) ap).mono ?_)
 rintro e_ z ⟨D, rfl, al, J, Y⟩
 have ac := F.callF' [0] [1, 2, 3, 4, 5] (by kernel_rfl) Y
 refine ⟨_, rfl, ?_⟩
 refine LY 6 h c J ?_
 have G : Mem (idsOf [v, t, n, l, m]) w z [t, n, l, m, [(b, .cells ⟨[.slice h o.2.length c, .slice i a.Enabled.length d, .slice j a.Raised.length f, .slice k a.Cpus.length g]⟩ 32 (0, 0))], D] := by rw [J]; exact ac
 refine MW 1 (NA (MW 1 (wV (.slice i a.Enabled.length d) z (eL false 1 1 (G.blk 4 rfl)) (wR 1 [(1, iv o.1), (2, pB b 0), (10, .slice i a.Enabled.length d), (11, iv o.1)] z ?_))))
 obtain ⟨u, aq, hm⟩ := gx_bind hm
 refine WC ((c_l_markBoolS z a.Enabled i d t ai o.1 (G.hasPick [0]) (G.nodupPick [0] (by kernel_rfl)) aq).mono ?_)
 rintro e_ A ⟨O, rfl, am, K, Z⟩
 have ad := G.callF' [0] [1, 2, 3, 4, 5] (by kernel_rfl) Z
 refine ⟨_, rfl, ?_⟩
 refine LY 10 i d K ?_
 have H : Mem (idsOf [v, t, n, l, m]) w A [n, l, m, [(b, .cells ⟨[.slice h o.2.length c, .slice i u.2.length d, .slice j a.Raised.length f, .slice k a.Cpus.length g]⟩ 32 (0, 0))], D, O] := by rw [K]; exact ad
 refine MW 1 (NA (MW 1 (wV (.slice j a.Raised.length f) A (eL false 1 2 (H.blk 3 rfl)) (wR 1 [(1, iv u.1), (2, pB b 0), (14, .slice j a.Raised.length f), (15, iv u.1)] A ?_))))
 obtain ⟨x, ar, hm⟩ := gx_bind hm
 refine WC ((c_l_markBoolS A a.Raised j f n aj u.1 (H.hasPick [0]) (H.nodupPick [0] (by kernel_rfl)) ar).mono ?_)
 rintro e_ B ⟨P, rfl, an, L, aa⟩
 have ae := H.callF' [0] [1, 2, 3, 4, 5] (by kernel_rfl) aa
 refine ⟨_, rfl, ?_⟩
 refine LY 14 j f L ?_
 have I : Mem (idsOf [v, t, n, l, m]) w B [l, m, [(b, .cells ⟨[.slice h o.2.length c, .slice i u.2.length d, .slice j x.2.length f, .slice k a.Cpus.length g]⟩ 32 (0, 0))], D, O, P] := by rw [L]; exact ae
 refine MW 1 (NA (MW 1 (wV (.slice k a.Cpus.length g) B (eL false 1 3 (I.blk 2 rfl)) (wR 1 [(1, iv x.1), (18, .slice k a.Cpus.length g), (19, iv x.1)] B ?_))))
 obtain ⟨C, au, hm⟩ := gx_bind hm
 refine WC ((c_l_markInterfaceS B a.Cpus k g l m ak x.1 (I.hasPick [0, 1]) (I.nodupPick [0, 1] (by kernel_rfl)) au).mono ?_)
 rintro e_ Q ⟨W, X, rfl, ao, N, ab⟩
 have af := I.callF' [0, 1] [2, 3, 4, 5] (by kernel_rfl) ab
 refine ⟨_, rfl, ?_⟩
 refine LY 18 k g N ?_
 have ag : Mem (idsOf [v, t, n, l, m]) w Q [[(b, .cells ⟨[.slice h o.2.length c, .slice i u.2.length d, .slice j x.2.length f, .slice k C.2.length g]⟩ 32 (0, 0))], D, O, P, W, X] := by rw [N]; exact af
 refine MW 1 (NA (wR 2 [(4, iv C.1)] Q (NC ?_)))
 obtain rfl := HS hm
 exact RA [iv C.1] (⟨D, O, P, W, X, rfl, al, (J.trans rfl), am, (K.trans rfl), an, (L.trans rfl), ao, (N.trans rfl), ag.pk [1, 2, 3, 4, 5]⟩)
theorem c_l_heldIntS (w : World) (c : List Int) (d : Option Addr) (f : Nat) (m : rdS Gx.encI w c d f) (j : Int) {r : Int} (hm : M.l_heldIntS c j = some r) :
  Calls Tryz.prog 22 #[.slice d c.length f, iv j] w fun e w' => e = .returned (iv r) ∧ Mem [] w w' [] := by
 unfold M.l_heldIntS at hm
 refine cE Tryz.func22 ?_
 have M0 := Mem.refl [] w
 refine QA (MW 1 (NB (wR 1 [(0, .slice d c.length f), (1, iv j), (5, iv 0)] w (NO ?_))))
 obtain ⟨z, y, n⟩ := gx_bind hm
 refine G_meet (fun a w' => ∃ (i : Int), z = .inl i ∧ Mem [] w w' [] ∧ Sat Tryz.f22.ntmps [(1, iv i)] a) ?_ ?_
 ·refine GB (G_while (σ := Int × Int) (ρ := (Int) ⊕ (Int)) (fun b a w' => Mem [] w w' [] ∧ Sat Tryz.f22.ntmps [(0, .slice d c.length f), (1, iv b.1), (5, iv b.2)] a) y (fun a ha => ⟨M0.pk [], ha.s⟩) ?_)
  clear hm
  intro b D hm o B g ⟨h, v⟩
  refine G_use v (QB (wR 4 [(0, .slice d c.length f), (1, iv b.1), (5, iv b.2), (9, .bool (decide (b.2 < (c.length : Int))))] g (NO ?_)))
  rcases gx_bif hm with ⟨k, hm⟩ | ⟨k, hm⟩
  ·refine gT k (GK (TN (GS (GB (QB (wR 2 [(0, .slice d c.length f), (1, iv b.1), (5, iv b.2), (12, .slice d c.length f), (13, iv b.2)] g ?_))))))
   obtain ⟨t, q, hm⟩ := gx_bind hm
   refine wV (elemP d (b.2.toNat * 1)) g (eI (m.mem0 h) rfl q) (wV (iv t) g (eE false 1 0 (b.2.toNat * 1) (m.mem0 h) q) (wR 2 [(0, .slice d c.length f), (1, iv b.1), (5, iv b.2), (17, .bool (t != b.1))] g (NO ?_)))
   rcases gx_bif hm with ⟨l, hm⟩ | ⟨l, hm⟩
   ·refine gT l (QA (wR 1 [(4, iv (-1))] g (ND (BR (TR (TR ?_))))))
    obtain rfl := HS hm
    obtain rfl := o _ rfl
    have hm := n; simp only [Sum.elim_inr] at hm
    refine BR (N_meet_ret (TR ?_))
    cases hm
    exact RA [iv (-1)] (⟨rfl, h.pk []⟩)
   refine gF l (GK (TN (GR (MW 3 (NG (wR 3 [(0, .slice d c.length f), (1, iv (w64 (b.1 + 1))), (5, iv (w64 (b.2 + 1)))] g (WN ?_)))))))
   cases hm
   exact N_loop fun a ha => ⟨_, rfl, h.pk [], ha.s⟩
  refine gF k (XA ?_)
  obtain rfl := HS hm
  obtain rfl := o _ rfl
  exact N_meet fun a ha => ⟨_, rfl, h.pk [], ha.s⟩
 intro C A ⟨i, hout_, u, x⟩
 refine N_use x ?_
 subst hout_
 have hm := n; simp only [Sum.elim_inl] at hm
 refine NF (wR 2 [(4, iv i)] A (NC ?_))
 obtain rfl := HS hm
 exact RA [iv i] (⟨rfl, u.pk []⟩)
end Go.Proofs.YtllhajkgkghhdaaGreat
set_option linter.unusedVariables false
set_option maxRecDepth 100000
set_option maxHeartbeats 4000000
namespace Go.Proofs.YtllhajkgkghhdaaGreat
open Go.Gx
theorem c_s_l9Wait (w : World) (d : List Waiter) (c : Option Addr) (b : Nat) (t : rdS encWaiter w d c b) (g : Waiter) {r : (List Waiter)} (hm : M.s_l9Wait d g = some r) :
  Calls Tryz.prog 130 #[.slice c d.length b, .agg #[iv g.Irq, iv g.Priority]] w fun e w' => ∃ (ai : Option Addr) (af : Nat) (aj : Seg), e = .returned (.slice ai r.length af) ∧ ownS encWaiter r ai af aj ∧ Mem [] w w' [aj] := by
 unfold M.s_l9Wait at hm
 refine cE Tryz.func130 ?_
 have M0 := Mem.refl [] w
 refine QA (wN (.cells ⟨[iv g.Irq, iv g.Priority]⟩ 142 (0, 0)) M0 fun l ak al => MW 1 (NA (wR 1 [(0, .slice c d.length b), (3, pB l 0), (5, iv 0)] ak (NE ?_))))
 obtain ⟨m, bi, bd⟩ := gx_bind hm
 refine G_meet (fun a w' => Mem [] w w' [[(l, .cells ⟨[iv g.Irq, iv g.Priority]⟩ 142 (0, 0))]] ∧ Sat Tryz.f130.ntmps [(0, .slice c d.length b), (3, pB l 0), (5, iv m)] a) ?_ ?_
 ·refine GB (G_while (σ := Int) (ρ := Int) (fun k a w' => Mem [] w w' [[(l, .cells ⟨[iv g.Irq, iv g.Priority]⟩ 142 (0, 0))]] ∧ Sat Tryz.f130.ntmps [(0, .slice c d.length b), (3, pB l 0), (5, iv k)] a) bi (fun a ha => ⟨al.pk [0], ha.s⟩) ?_)
  clear hm
  intro k cf hm bg b0 b3 ⟨am, a6⟩
  refine G_use a6 (GS (GS ?_))
  obtain ⟨bj, be, bc⟩ := gx_bind hm
  refine G_meet (fun a w' => Mem [] w w' [[(l, .cells ⟨[iv g.Irq, iv g.Priority]⟩ 142 (0, 0))]] ∧ Sat Tryz.f130.ntmps [(0, .slice c d.length b), (3, pB l 0), (5, iv k), (26, .bool bj)] a) ?_ ?_
  ·have hm := be
   refine G_quiet (by kernel_rfl) (by kernel_rfl) am (MS 5 [(0, .slice c d.length b), (3, pB l 0), (5, iv k), (10, .bool (decide (k < (d.length : Int))))] ?_)
   rcases gx_bif hm with ⟨N, hm⟩ | ⟨N, hm⟩
   ·refine zK 10 true N (MS 2 [(0, .slice c d.length b), (3, pB l 0), (5, iv k), (10, .bool true), (11, .slice c d.length b), (12, iv k)] ?_)
    obtain ⟨D, T, hm⟩ := gx_bind hm
    refine zV (elemP c (k.toNat * 2)) (fun w_ M_ => (eI (t.mem0 M_) rfl T)) (zV (elemP c (k.toNat * 2 + 1)) (fun w_ M_ => (eF 1 (k.toNat * 2) 1 (t.mem0 M_) T)) (zV (iv D.Priority) (fun w_ M_ => (eE false 1 1 (k.toNat * 2 + 1) (t.mem0 M_) T)) (MS 2 [(0, .slice c d.length b), (3, pB l 0), (5, iv k), (10, .bool true), (15, iv D.Priority), (16, .slice c d.length b), (17, iv k)] ?_)))
    obtain ⟨H, U, hm⟩ := gx_bind hm
    refine zV (elemP c (k.toNat * 2)) (fun w_ M_ => (eI (t.mem0 M_) rfl U)) (zV (elemP c (k.toNat * 2 + 0)) (fun w_ M_ => (eF 0 (k.toNat * 2) 0 (t.mem0 M_) U)) (zV (iv H.Irq) (fun w_ M_ => (eE false 1 0 (k.toNat * 2 + 0) (t.mem0 M_) U)) (MZ 1 (zV (iv g.Priority) (fun w_ M_ => (eL false 1 1 (M_.blk 0 rfl))) (MS 1 [(0, .slice c d.length b), (3, pB l 0), (5, iv k), (10, .bool true), (15, iv D.Priority), (20, iv H.Irq), (22, iv g.Priority), (23, pB l 0)] (zV (iv g.Irq) (fun w_ M_ => (eL false 1 0 (M_.blk 0 rfl))) ?_))))))
    obtain ⟨W, bh, hm⟩ := gx_bind hm
    refine ZC (.bool W) (fun w_ M_ => c_s_l8Less w_ D.Priority H.Irq g.Priority g.Irq bh) (MS 1 [(0, .slice c d.length b), (3, pB l 0), (5, iv k), (26, .bool W)] (Z_end fun b4 an => ?_))
    obtain rfl := HS hm
    exact N_meet fun a ha => ⟨an.pk [0], ha.s⟩
   refine zK 10 false N (MS 16 [(0, .slice c d.length b), (3, pB l 0), (5, iv k), (26, .bool false)] (Z_end fun b5 ao => ?_))
   obtain rfl := HS hm
   exact N_meet fun a ha => ⟨ao.pk [0], ha.s⟩
  intro b1 bp ⟨X, a7⟩
  refine N_use a7 ?_
  have hm := bc
  refine TN ?_
  rcases gx_bif hm with ⟨O, hm⟩ | ⟨O, hm⟩
  ·refine gT O (GK (TN (GB (GR (wR 3 [(0, .slice c d.length b), (3, pB l 0), (5, iv (w64 (k + 1)))] bp (WN (BN ?_)))))))
   cases hm
   exact N_loop fun a ha => ⟨_, rfl, X.pk [0], ha.s⟩
  refine gF O (XA ?_)
  obtain rfl := HS hm
  obtain rfl := bg _ rfl
  exact N_meet fun a ha => ⟨X.pk [0], ha.s⟩
 intro b2 b6 ⟨ap, a8⟩
 refine N_use a8 ?_
 have hm := bd
 refine TN (GS ?_)
 obtain ⟨J, ag, hm⟩ := gx_bind hm
 obtain ⟨F, a9, hm⟩ := gx_bind hm
 obtain ⟨G, ba, hm⟩ := gx_bind hm
 obtain ⟨K, ah, hm⟩ := gx_bind hm
 refine G_sub [(0, .slice c d.length b), (3, pB l 0), (5, iv m)] (by kernel_rfl) (G_dagL 11 [[], [], [], [1, 2], [0, 3], [], [5], [4, 6], [], [], [8, 9]] [[], [], [], [], [0], [], [], [4], [], [], []] [[], [], [], [], [], [], [], [6], [], [], []] [[], [], [], [], [], [], [], [], [], [], []] [[], [], [], [], [], [], [], [], [], [], []] [[], [], [], [], [], [], [], [], [], [], []] (fun _ => []) (fun i => ([fun f v s => ∃ (A : Option Addr) (x : Nat), v = (.slice A ([] : List Waiter).length x : Value) ∧ ownS encWaiter ([] : List Waiter) A x s, fun f v s => v = (.slice c d.length b : Value) ∧ s = [], fun f v s => v = (iv m : Value) ∧ s = [], fun f v s => v = (.slice (subP c (0 : Int).toNat b 2) J.length (b - (0 : Int).toNat) : Value) ∧ s = [], fun f v s => ∃ (B : Option Addr) (y : Nat), v = (.slice B F.length y : Value) ∧ ownS encWaiter F B y s, fun f v s => v = (.agg #[iv g.Irq, iv g.Priority] : Value) ∧ s = [], fun f v s => ∃ (u : Option Addr) (q : Nat), v = (.slice u [g].length q : Value) ∧ ownS encWaiter [g] u q s, fun f v s => ∃ (C : Option Addr) (z : Nat), v = (.slice C G.length z : Value) ∧ ownS encWaiter G C z s, fun f v s => v = (.slice c d.length b : Value) ∧ s = [], fun f v s => v = (iv m : Value) ∧ s = [], fun f v s => v = (.slice (subP c m.toNat b 2) K.length (b - m.toNat) : Value) ∧ s = []] : List ((Nat → Value) → Value → Seg → Prop)).getD i (fun _ _ _ => False)) (fun j f v => ∃ s, (fun i => ([fun f v s => ∃ (A : Option Addr) (x : Nat), v = (.slice A ([] : List Waiter).length x : Value) ∧ ownS encWaiter ([] : List Waiter) A x s, fun f v s => v = (.slice c d.length b : Value) ∧ s = [], fun f v s => v = (iv m : Value) ∧ s = [], fun f v s => v = (.slice (subP c (0 : Int).toNat b 2) J.length (b - (0 : Int).toNat) : Value) ∧ s = [], fun f v s => ∃ (B : Option Addr) (y : Nat), v = (.slice B F.length y : Value) ∧ ownS encWaiter F B y s, fun f v s => v = (.agg #[iv g.Irq, iv g.Priority] : Value) ∧ s = [], fun f v s => ∃ (u : Option Addr) (q : Nat), v = (.slice u [g].length q : Value) ∧ ownS encWaiter [g] u q s, fun f v s => ∃ (C : Option Addr) (z : Nat), v = (.slice C G.length z : Value) ∧ ownS encWaiter G C z s, fun f v s => v = (.slice c d.length b : Value) ∧ s = [], fun f v s => v = (iv m : Value) ∧ s = [], fun f v s => v = (.slice (subP c m.toNat b 2) K.length (b - m.toNat) : Value) ∧ s = []] : List ((Nat → Value) → Value → Seg → Prop)).getD i (fun _ _ _ => False)) j f v s) [] [6, 7, 10] [6, 7] (fun _ _ _ s h => ⟨s, h⟩) (by kernel_rfl) (by kernel_rfl) (ap.preNil 11) (by kernel_rfl) (by kernel_rfl) (by kernel_rfl) (by kernel_rfl) (allOb_cons ?_ (allOb_cons ?_ (allOb_cons ?_ (allOb_cons ?_ (allOb_cons ?_ (allOb_cons ?_ (allOb_cons ?_ (allOb_cons ?_ (allOb_cons ?_ (allOb_cons ?_ (allOb_cons ?_ allOb_nil))))))))))) ?_)
 ·intro n o
  intro R b7 aq
  exact wL (E := encWaiter) ([] : List Waiter) 0 [] 142 aq fun A x bk b8 P ar => WN (oE (.slice A ([] : List Waiter).length x) bk ⟨A, x, rfl, P⟩ (Mem.mid ar))
 ·intro n o
  intro R bq au
  exact MW 1 (WN (oE (.slice c d.length b) [] ⟨by kernel_rfl, rfl⟩ au))
 ·intro n o
  intro R br av
  exact MW 1 (WN (oE (iv m) [] ⟨by kernel_rfl, rfl⟩ av))
 ·intro n o
  intro v1_ hb1_
  obtain ⟨rfl, _⟩ := hb1_
  intro v2_ hb2_
  obtain ⟨rfl, _⟩ := hb2_
  intro R bs Y
  exact wV (.slice (subP c (0 : Int).toNat b 2) J.length (b - (0 : Int).toNat)) bs (E_slice (E := encWaiter) _ _ _ _ d.length 0 m rfl (by kernel_rfl) (Or.inl ⟨rfl, rfl⟩) (Or.inr ⟨_, rfl, by kernel_rfl⟩) (by kernel_rfl) (t.mem0 Y) rfl ag) (WN (oE (.slice (subP c (0 : Int).toNat b 2) J.length (b - (0 : Int).toNat)) [] ⟨by kernel_rfl, rfl⟩ Y))
 ·intro n o
  intro v0_ hb0_
  obtain ⟨A, x, rfl, P⟩ := hb0_
  intro v3_ hb3_
  obtain ⟨rfl, _⟩ := hb3_
  intro R b9 Z
  exact wA 16 [iv 0, iv 0] 2 Z P ((t.mem0 Z).sliceM ag) a9 fun B y bl ca Q aw => WN (oE (.slice B F.length y) bl ⟨B, y, rfl, Q⟩ (Mem.takeOver aw))
 ·intro n o
  intro R bt aa
  exact wV (.agg #[iv g.Irq, iv g.Priority]) bt (eL true 2 0 (aa.blk 0 rfl)) (WN (oE (.agg #[iv g.Irq, iv g.Priority]) [] ⟨by kernel_rfl, rfl⟩ aa))
 ·intro n o
  intro v5_ hb5_
  obtain ⟨rfl, _⟩ := hb5_
  intro R cb ax
  exact wL (E := encWaiter) [g] 1 [iv g.Irq, iv g.Priority] 142 ax fun u q bm cc I ay => WN (oE (.slice u [g].length q) bm ⟨u, q, rfl, I⟩ (Mem.mid ay))
 ·intro n o
  intro v4_ hb4_
  obtain ⟨B, y, rfl, Q⟩ := hb4_
  intro v6_ hb6_
  obtain ⟨u, q, rfl, I⟩ := hb6_
  intro R cd ab
  exact wA 16 [iv 0, iv 0] 2 ab Q (I.r ab 3) ba fun C z bn ce S az => WN (oE (.slice C G.length z) bn ⟨C, z, rfl, S⟩ (Mem.takeOver az))
 ·intro n o
  intro R bu a0
  exact MW 1 (WN (oE (.slice c d.length b) [] ⟨by kernel_rfl, rfl⟩ a0))
 ·intro n o
  intro R bv a3
  exact MW 1 (WN (oE (iv m) [] ⟨by kernel_rfl, rfl⟩ a3))
 ·intro n o
  intro v8_ hb8_
  obtain ⟨rfl, _⟩ := hb8_
  intro v9_ hb9_
  obtain ⟨rfl, _⟩ := hb9_
  intro R bw ac
  exact wV (.slice (subP c m.toNat b 2) K.length (b - m.toNat)) bw (E_slice (E := encWaiter) _ _ _ _ d.length m (d.length : Int) rfl (by kernel_rfl) (Or.inr ⟨_, rfl, by kernel_rfl⟩) (Or.inl ⟨rfl, rfl⟩) (by kernel_rfl) (t.mem0 ac) rfl ah) (WN (oE (.slice (subP c m.toNat b 2) K.length (b - m.toNat)) [] ⟨by kernel_rfl, rfl⟩ ac))
 intro n o
 intro v6_ hb6_
 obtain ⟨u, q, rfl, I⟩ := hb6_
 intro v7_ hb7_
 obtain ⟨C, z, rfl, S⟩ := hb7_
 intro v10_ hb10_
 obtain ⟨rfl, _⟩ := hb10_
 intro bx a4
 have ad : Mem [] w bx [[(l, .cells ⟨[iv g.Irq, iv g.Priority]⟩ 142 (0, 0))], (n 6), (n 7)] := a4
 obtain ⟨ae, bb, hm⟩ := gx_bind hm
 refine wA 16 [iv 0, iv 0] 2 ad S ((t.mem0 ad).sliceM ah) bb fun V L bo bz bf a5 => wR 1 [(4, .slice V ae.length L)] bz (NC ?_)
 obtain rfl := HS hm
 exact RA [.slice V ae.length L] (⟨V, L, bo, rfl, bf, a5.pk [2]⟩)
end Go.Proofs.YtllhajkgkghhdaaGreat
set_option linter.unusedVariables false
set_option maxRecDepth 100000
set_option maxHeartbeats 4000000
namespace Go.Proofs.YtllhajkgkghhdaaGreat
open Go.Gx
theorem c_s_l9Own (w : World) (a : Queue) (y : Option Addr) (q : Nat) (aj : rdS encSlot w a.Slots y q) (z : Option Addr) (t : Nat) (ak : rdS encWaiter w a.Waiting z t) {r : Queue} (hm : M.s_l9Own a = some r) :
  Calls Tryz.prog 183 #[.agg #[.slice y a.Slots.length q, .slice z a.Waiting.length t]] w fun e w' => ∃ (U : Option Addr) (S : Nat) (W : Seg), ∃ (V : Option Addr) (T : Nat) (X : Seg), e = .returned (.agg #[.slice U r.Slots.length S, .slice V r.Waiting.length T]) ∧ ownS encSlot r.Slots U S W ∧ ownS encWaiter r.Waiting V T X ∧ Mem [] w w' [W, X] := by
 unfold M.s_l9Own at hm
 refine cE Tryz.func183 ?_
 have M0 := Mem.refl [] w
 refine QA (wN (.cells ⟨[.slice y a.Slots.length q, .slice z a.Waiting.length t]⟩ 85 (0, 0)) M0 fun m a0 Y => wN (.cells ⟨[.slice none 0 0, .slice none 0 0]⟩ 85 (0, 0)) Y fun H a3 Z => NE ?_)
 obtain ⟨l, al, hm⟩ := gx_bind hm
 refine G_sub [(0, .agg #[.slice y a.Slots.length q, .slice z a.Waiting.length t]), (1, pB m 0), (2, pB H 0)] (by kernel_rfl) (G_dagL 7 [[], [], [1], [0, 2], [], [], [5]] [[], [], [], [0], [], [], []] [[], [], [], [], [], [], []] [[], [], [], [], [], [], []] [[], [], [], [], [], [], []] [[], [], [], [], [], [], []] (fun _ => []) (fun i => ([fun f v s => ∃ (A : Option Addr) (u : Nat), v = (.slice A ([] : List Slot).length u : Value) ∧ ownS encSlot ([] : List Slot) A u s, fun f v s => v = (pB m 0 : Value) ∧ s = [], fun f v s => v = (.slice y a.Slots.length q : Value) ∧ s = [], fun f v s => ∃ (d : Option Addr) (c : Nat), v = (.slice d l.length c : Value) ∧ ownS encSlot l d c s, fun f v s => ∃ (B : Option Addr) (x : Nat), v = (.slice B ([] : List Waiter).length x : Value) ∧ ownS encWaiter ([] : List Waiter) B x s, fun f v s => v = (pB m 1 : Value) ∧ s = [], fun f v s => v = (.slice z a.Waiting.length t : Value) ∧ s = []] : List ((Nat → Value) → Value → Seg → Prop)).getD i (fun _ _ _ => False)) (fun j f v => ∃ s, (fun i => ([fun f v s => ∃ (A : Option Addr) (u : Nat), v = (.slice A ([] : List Slot).length u : Value) ∧ ownS encSlot ([] : List Slot) A u s, fun f v s => v = (pB m 0 : Value) ∧ s = [], fun f v s => v = (.slice y a.Slots.length q : Value) ∧ s = [], fun f v s => ∃ (d : Option Addr) (c : Nat), v = (.slice d l.length c : Value) ∧ ownS encSlot l d c s, fun f v s => ∃ (B : Option Addr) (x : Nat), v = (.slice B ([] : List Waiter).length x : Value) ∧ ownS encWaiter ([] : List Waiter) B x s, fun f v s => v = (pB m 1 : Value) ∧ s = [], fun f v s => v = (.slice z a.Waiting.length t : Value) ∧ s = []] : List ((Nat → Value) → Value → Seg → Prop)).getD i (fun _ _ _ => False)) j f v s) [] [3, 4, 6] [3, 4] (fun _ _ _ s h => ⟨s, h⟩) (by kernel_rfl) (by kernel_rfl) (Z.preNil 7) (by kernel_rfl) (by kernel_rfl) (by kernel_rfl) (by kernel_rfl) (allOb_cons ?_ (allOb_cons ?_ (allOb_cons ?_ (allOb_cons ?_ (allOb_cons ?_ (allOb_cons ?_ (allOb_cons ?_ allOb_nil))))))) ?_)
 ·intro n G
  intro R a4 aa
  exact wL (E := encSlot) ([] : List Slot) 0 [] 117 aa fun A u ao a5 I ab => WN (oE (.slice A ([] : List Slot).length u) ao ⟨A, u, rfl, I⟩ (Mem.mid ab))
 ·intro n G
  intro R au ac
  exact MW 1 (WN (oE (pB m 0) [] ⟨by kernel_rfl, rfl⟩ ac))
 ·intro n G
  intro v1_ hb1_
  obtain ⟨rfl, _⟩ := hb1_
  intro R av L
  exact wV (.slice y a.Slots.length q) av (eL false 1 0 (L.blk 0 rfl)) (WN (oE (.slice y a.Slots.length q) [] ⟨by kernel_rfl, rfl⟩ L))
 ·intro n G
  intro v0_ hb0_
  obtain ⟨A, u, rfl, I⟩ := hb0_
  intro v2_ hb2_
  obtain ⟨rfl, _⟩ := hb2_
  intro R a6 N
  exact wA 24 [iv 0, iv 0, iv 0] 3 N I (aj.mem0 N) al fun d c ap a7 J ad => WN (oE (.slice d l.length c) ap ⟨d, c, rfl, J⟩ (Mem.takeOver ad))
 ·intro n G
  intro R a8 ae
  exact wL (E := encWaiter) ([] : List Waiter) 0 [] 142 ae fun B x aq a9 K af => WN (oE (.slice B ([] : List Waiter).length x) aq ⟨B, x, rfl, K⟩ (Mem.mid af))
 ·intro n G
  intro R aw ag
  exact MW 1 (WN (oE (pB m 1) [] ⟨by kernel_rfl, rfl⟩ ag))
 ·intro n G
  intro v5_ hb5_
  obtain ⟨rfl, _⟩ := hb5_
  intro R ax O
  exact wV (.slice z a.Waiting.length t) ax (eL false 1 1 (O.blk 0 rfl)) (WN (oE (.slice z a.Waiting.length t) [] ⟨by kernel_rfl, rfl⟩ O))
 intro n G
 intro v3_ hb3_
 obtain ⟨d, c, rfl, J⟩ := hb3_
 intro v4_ hb4_
 obtain ⟨B, x, rfl, K⟩ := hb4_
 intro v6_ hb6_
 obtain ⟨rfl, _⟩ := hb6_
 intro ay ah
 have P : Mem [] w ay [[(m, .cells ⟨[.slice y a.Slots.length q, .slice z a.Waiting.length t]⟩ 85 (0, 0))], [(H, .cells ⟨[.slice none 0 0, .slice none 0 0]⟩ 85 (0, 0))], (n 3), (n 4)] := ah
 obtain ⟨F, am, hm⟩ := gx_bind hm
 refine wA 16 [iv 0, iv 0] 3 P K (ak.mem0 P) am fun D C ar az an ai => wR 1 [(2, pB H 0), (11, .agg #[.slice d l.length c, .slice D F.length C])] az (wS true 2 0 (.agg #[.slice d l.length c, .slice D F.length C]) 1 [.slice d l.length c, .slice D F.length C] ai rfl fun ba Q => NC ?_)
 obtain rfl := HS hm
 exact N_ret [.agg #[.slice d l.length c, .slice D F.length C]] (RX true 2 0 (Q.blk 1 rfl) RVs_nil) (⟨d, c, (n 3), D, C, ar, rfl, J, an, Q.pk [2, 3]⟩)
theorem c_s_l10Own (w : World) (a : Interface) (B : Option Addr) (x : Nat) (an : rdS Gx.encI w a.Stack B x) (C : Option Addr) (y : Nat) (ao : rdS encSlot w a.Queue.Slots C y) (D : Option Addr) (z : Nat) (ap : rdS encWaiter w a.Queue.Waiting D z) {r : Interface} (hm : M.s_l10Own a = some r) :
  Calls Tryz.prog 145 #[.agg #[iv a.Mask, .slice B a.Stack.length x, .slice C a.Queue.Slots.length y, .slice D a.Queue.Waiting.length z]] w fun e w' => ∃ (Z : Option Addr) (W : Nat) (ac : Seg), ∃ (aa : Option Addr) (X : Nat) (ad : Seg), ∃ (ab : Option Addr) (Y : Nat) (ae : Seg), e = .returned (.agg #[iv r.Mask, .slice Z r.Stack.length W, .slice aa r.Queue.Slots.length X, .slice ab r.Queue.Waiting.length Y]) ∧ ownS Gx.encI r.Stack Z W ac ∧ ownS encSlot r.Queue.Slots aa X ad ∧ ownS encWaiter r.Queue.Waiting ab Y ae ∧ Mem [] w w' [ac, ad, ae] := by
 unfold M.s_l10Own at hm
 refine cE Tryz.func145 ?_
 have M0 := Mem.refl [] w
 refine QA (wN (.cells ⟨[iv a.Mask, .slice B a.Stack.length x, .slice C a.Queue.Slots.length y, .slice D a.Queue.Waiting.length z]⟩ 87 (0, 0)) M0 fun u a5 ah => wN (.cells ⟨[iv 0, .slice none 0 0, .slice none 0 0, .slice none 0 0]⟩ 87 (0, 0)) ah fun I a6 ai => NE ?_)
 obtain ⟨E, aq, hm⟩ := gx_bind hm
 obtain ⟨c, ar, hm⟩ := gx_bind hm
 refine G_sub [(0, .agg #[iv a.Mask, .slice B a.Stack.length x, .slice C a.Queue.Slots.length y, .slice D a.Queue.Waiting.length z]), (1, pB u 0), (2, pB I 0)] (by kernel_rfl) (G_dagL 8 [[], [0], [], [2], [3], [], [5], [6]] [[], [], [], [], [], [], [], []] [[], [], [], [], [], [], [], []] [[], [], [], [], [], [], [], []] [[], [], [], [], [], [], [], []] [[], [], [], [], [], [], [], []] (fun _ => []) (fun i => ([fun f v s => v = (pB u 0 : Value) ∧ s = [], fun f v s => v = (iv a.Mask : Value) ∧ s = [], fun f v s => v = (pB u 1 : Value) ∧ s = [], fun f v s => v = (.slice B a.Stack.length x : Value) ∧ s = [], fun f v s => ∃ (n : Option Addr) (d : Nat), v = (.slice n E.length d : Value) ∧ ownS Gx.encI E n d s, fun f v s => v = (pB u 2 : Value) ∧ s = [], fun f v s => v = (.agg #[.slice C a.Queue.Slots.length y, .slice D a.Queue.Waiting.length z] : Value) ∧ s = [], fun f v s => ∃ (q : Option Addr) (l : Nat) (F : Seg), ∃ (t : Option Addr) (m : Nat) (G : Seg), v = (.agg #[.slice q c.Slots.length l, .slice t c.Waiting.length m] : Value) ∧ s = (F ++ G) ∧ ownS encSlot c.Slots q l F ∧ ownS encWaiter c.Waiting t m G] : List ((Nat → Value) → Value → Seg → Prop)).getD i (fun _ _ _ => False)) (fun j f v => ∃ s, (fun i => ([fun f v s => v = (pB u 0 : Value) ∧ s = [], fun f v s => v = (iv a.Mask : Value) ∧ s = [], fun f v s => v = (pB u 1 : Value) ∧ s = [], fun f v s => v = (.slice B a.Stack.length x : Value) ∧ s = [], fun f v s => ∃ (n : Option Addr) (d : Nat), v = (.slice n E.length d : Value) ∧ ownS Gx.encI E n d s, fun f v s => v = (pB u 2 : Value) ∧ s = [], fun f v s => v = (.agg #[.slice C a.Queue.Slots.length y, .slice D a.Queue.Waiting.length z] : Value) ∧ s = [], fun f v s => ∃ (q : Option Addr) (l : Nat) (F : Seg), ∃ (t : Option Addr) (m : Nat) (G : Seg), v = (.agg #[.slice q c.Slots.length l, .slice t c.Waiting.length m] : Value) ∧ s = (F ++ G) ∧ ownS encSlot c.Slots q l F ∧ ownS encWaiter c.Waiting t m G] : List ((Nat → Value) → Value → Seg → Prop)).getD i (fun _ _ _ => False)) j f v s) [] [1, 4, 7] [4, 7] (fun _ _ _ s h => ⟨s, h⟩) (by kernel_rfl) (by kernel_rfl) (ai.preNil 8) (by kernel_rfl) (by kernel_rfl) (by kernel_rfl) (by kernel_rfl) (allOb_cons ?_ (allOb_cons ?_ (allOb_cons ?_ (allOb_cons ?_ (allOb_cons ?_ (allOb_cons ?_ (allOb_cons ?_ (allOb_cons ?_ allOb_nil)))))))) ?_)
 ·intro A H
  intro R av aj
  exact MW 1 (WN (oE (pB u 0) [] ⟨by kernel_rfl, rfl⟩ aj))
 ·intro A H
  intro v0_ hb0_
  obtain ⟨rfl, _⟩ := hb0_
  intro R aw Q
  exact wV (iv a.Mask) aw (eL false 1 0 (Q.blk 0 rfl)) (WN (oE (iv a.Mask) [] ⟨by kernel_rfl, rfl⟩ Q))
 ·intro A H
  intro R ax ak
  exact MW 1 (WN (oE (pB u 1) [] ⟨by kernel_rfl, rfl⟩ ak))
 ·intro A H
  intro v2_ hb2_
  obtain ⟨rfl, _⟩ := hb2_
  intro R ay S
  exact wV (.slice B a.Stack.length x) ay (eL false 1 1 (S.blk 0 rfl)) (WN (oE (.slice B a.Stack.length x) [] ⟨by kernel_rfl, rfl⟩ S))
 ·intro A H
  intro v3_ hb3_
  obtain ⟨rfl, _⟩ := hb3_
  intro R az T
  refine WC ((c_s_l1Own az a.Stack B x (an.mem0 T) aq).mono ?_)
  rintro e_ a7 ⟨n, d, au, rfl, L, af⟩
  refine ⟨_, rfl, ?_⟩
  exact WN (oE (.slice n E.length d) au ⟨n, d, rfl, L⟩ (Mem.callMid T af))
 ·intro A H
  intro R a0 al
  exact MW 1 (WN (oE (pB u 2) [] ⟨by kernel_rfl, rfl⟩ al))
 ·intro A H
  intro v5_ hb5_
  obtain ⟨rfl, _⟩ := hb5_
  intro R a3 U
  exact wV (.agg #[.slice C a.Queue.Slots.length y, .slice D a.Queue.Waiting.length z]) a3 (eL true 2 2 (U.blk 0 rfl)) (WN (oE (.agg #[.slice C a.Queue.Slots.length y, .slice D a.Queue.Waiting.length z]) [] ⟨by kernel_rfl, rfl⟩ U))
 ·intro A H
  intro v6_ hb6_
  obtain ⟨rfl, _⟩ := hb6_
  intro R a4 K
  refine WC ((c_s_l9Own a4 a.Queue C y (ao.mem0 K) D z (ap.mem0 K) ar).mono ?_)
  rintro e_ a8 ⟨q, l, F, t, m, G, rfl, N, O, ag⟩
  refine ⟨_, rfl, ?_⟩
  exact WN (oE (.agg #[.slice q c.Slots.length l, .slice t c.Waiting.length m]) (F ++ G) ⟨q, l, F, t, m, G, rfl, rfl, N, O⟩ (Mem.callMid K (ag.permF (by simp))))
 intro A H
 intro v1_ hb1_
 obtain ⟨rfl, _⟩ := hb1_
 intro v4_ hb4_
 obtain ⟨n, d, rfl, L⟩ := hb4_
 intro v7_ hb7_
 obtain ⟨q, l, F, t, m, G, rfl, hs7_, N, O⟩ := hb7_
 intro P am
 have J : Mem [] w P [[(u, .cells ⟨[iv a.Mask, .slice B a.Stack.length x, .slice C a.Queue.Slots.length y, .slice D a.Queue.Waiting.length z]⟩ 87 (0, 0))], [(I, .cells ⟨[iv 0, .slice none 0 0, .slice none 0 0, .slice none 0 0]⟩ 87 (0, 0))], (A 4), (A 7)] := am
 rw [hs7_] at J
 replace J : Mem [] w P [[(u, .cells ⟨[iv a.Mask, .slice B a.Stack.length x, .slice C a.Queue.Slots.length y, .slice D a.Queue.Waiting.length z]⟩ 87 (0, 0))], [(I, .cells ⟨[iv 0, .slice none 0 0, .slice none 0 0, .slice none 0 0]⟩ 87 (0, 0))], (A 4), F, G] := J.permF (by simp)
 refine wR 1 [(2, pB I 0), (11, .agg #[iv a.Mask, .slice n E.length d, .slice q c.Slots.length l, .slice t c.Waiting.length m])] P (wS true 4 0 (.agg #[iv a.Mask, .slice n E.length d, .slice q c.Slots.length l, .slice t c.Waiting.length m]) 1 [iv a.Mask, .slice n E.length d, .slice q c.Slots.length l, .slice t c.Waiting.length m] J rfl fun a9 V => NC ?_)
 obtain rfl := HS hm
 exact N_ret [.agg #[iv a.Mask, .slice n E.length d, .slice q c.Slots.length l, .slice t c.Waiting.length m]] (RX true 4 0 (V.blk 1 rfl) RVs_nil) (⟨n, d, (A 4), q, l, F, t, m, G, rfl, L, N, O, V.pk [2, 3, 4]⟩)
theorem c_s_l21Own (w : World) (c : Machine) (Q : Option Addr) (N : Nat) (dq : rdS encRoute w c.Routes Q N) (S : Option Addr) (O : Nat) (dr : rdS Gx.encB w c.Enabled S O) (T : Option Addr) (P : Nat) (ds : rdS Gx.encB w c.Raised T P) (J : Option Addr) (L : Nat) (dt : rdD deepInterface w c.Cpus J L) {r : Machine} (hm : M.s_l21Own c = some r) :
  Calls Tryz.prog 88 #[.agg #[.slice Q c.Routes.length N, .slice S c.Enabled.length O, .slice T c.Raised.length P, .slice J c.Cpus.length L]] w fun e w' => ∃ (cg : Option Addr) (b9 : Nat) (ck : Seg), ∃ (ch : Option Addr) (ca : Nat) (cl : Seg), ∃ (ci : Option Addr) (cb : Nat) (cm : Seg), ∃ (cj : Option Addr) (cc : Nat) (cn : Seg) (co : Seg), e = .returned (.agg #[.slice cg r.Routes.length b9, .slice ch r.Enabled.length ca, .slice ci r.Raised.length cb, .slice cj r.Cpus.length cc]) ∧ ownS encRoute r.Routes cg b9 ck ∧ ownS Gx.encB r.Enabled ch ca cl ∧ ownS Gx.encB r.Raised ci cb cm ∧ ownD deepInterface r.Cpus cj cc cn co ∧ Mem [] w w' [ck, cl, cm, cn, co] := by
 unfold M.s_l21Own at hm
 refine cE Tryz.func88 ?_
 have M0 := Mem.refl [] w
 refine QA (wN (.cells ⟨[.slice Q c.Routes.length N, .slice S c.Enabled.length O, .slice T c.Raised.length P, .slice J c.Cpus.length L]⟩ 32 (0, 0)) M0 fun n e2 cu => wN (.cells ⟨[.slice none 0 0, .slice none 0 0, .slice none 0 0, .slice none 0 0]⟩ 32 (0, 0)) cu fun K e3 cv => NE ?_)
 obtain ⟨G, dw, hm⟩ := gx_bind hm
 obtain ⟨H, dx, hm⟩ := gx_bind hm
 obtain ⟨I, dy, hm⟩ := gx_bind hm
 refine G_sub [(0, .agg #[.slice Q c.Routes.length N, .slice S c.Enabled.length O, .slice T c.Raised.length P, .slice J c.Cpus.length L]), (1, pB n 0), (2, pB K 0)] (by kernel_rfl) (G_dagL 15 [[], [], [1], [0, 2], [], [], [5], [4, 6], [], [], [9], [8, 10], [], [], []] [[], [], [], [0], [], [], [], [4], [], [], [], [8], [], [], []] [[], [], [], [], [], [], [], [], [], [], [], [], [], [], []] [[], [], [], [], [], [], [], [], [], [], [], [], [], [3, 7, 11, 12], []] [[], [], [], [], [], [], [], [], [], [], [], [], [], [3, 7, 11, 12], []] [[], [], [], [], [], [], [], [], [], [], [], [], [], [], []] (fun _ => []) (fun i => ([fun f v s => ∃ (ax : Option Addr) (aq : Nat), v = (.slice ax ([] : List Route).length aq : Value) ∧ ownS encRoute ([] : List Route) ax aq s, fun f v s => v = (pB n 0 : Value) ∧ s = [], fun f v s => v = (.slice Q c.Routes.length N : Value) ∧ s = [], fun f v s => ∃ (y : Option Addr) (t : Nat), v = (.slice y G.length t : Value) ∧ ownS encRoute G y t s, fun f v s => ∃ (ay : Option Addr) (ar : Nat), v = (.slice ay ([] : List Bool).length ar : Value) ∧ ownS Gx.encB ([] : List Bool) ay ar s, fun f v s => v = (pB n 1 : Value) ∧ s = [], fun f v s => v = (.slice S c.Enabled.length O : Value) ∧ s = [], fun f v s => ∃ (z : Option Addr) (u : Nat), v = (.slice z H.length u : Value) ∧ ownS Gx.encB H z u s, fun f v s => ∃ (az : Option Addr) (au : Nat), v = (.slice az ([] : List Bool).length au : Value) ∧ ownS Gx.encB ([] : List Bool) az au s, fun f v s => v = (pB n 2 : Value) ∧ s = [], fun f v s => v = (.slice T c.Raised.length P : Value) ∧ s = [], fun f v s => ∃ (B : Option Addr) (x : Nat), v = (.slice B I.length x : Value) ∧ ownS Gx.encB I B x s, fun f v s => ∃ (V : Option Addr) (U : Nat) (am : Seg) (a3 : Seg), v = (.slice V ([] : List Interface).length U : Value) ∧ s = (am ++ a3) ∧ ownD deepInterface ([] : List Interface) V U am a3, fun f v s => v = (.agg #[(atPath (f 3) []), (atPath (f 7) []), (atPath (f 11) []), (atPath (f 12) [])] : Value) ∧ s = [], fun f v s => ∃ (q : Nat), v = (pB q 0 : Value) ∧ s = [(q, .cells ⟨[.slice none 0 0, .slice none 0 0, .slice none 0 0, .slice none 0 0]⟩ 32 (0, 0))]] : List ((Nat → Value) → Value → Seg → Prop)).getD i (fun _ _ _ => False)) (fun j f v => ∃ s, (fun i => ([fun f v s => ∃ (ax : Option Addr) (aq : Nat), v = (.slice ax ([] : List Route).length aq : Value) ∧ ownS encRoute ([] : List Route) ax aq s, fun f v s => v = (pB n 0 : Value) ∧ s = [], fun f v s => v = (.slice Q c.Routes.length N : Value) ∧ s = [], fun f v s => ∃ (y : Option Addr) (t : Nat), v = (.slice y G.length t : Value) ∧ ownS encRoute G y t s, fun f v s => ∃ (ay : Option Addr) (ar : Nat), v = (.slice ay ([] : List Bool).length ar : Value) ∧ ownS Gx.encB ([] : List Bool) ay ar s, fun f v s => v = (pB n 1 : Value) ∧ s = [], fun f v s => v = (.slice S c.Enabled.length O : Value) ∧ s = [], fun f v s => ∃ (z : Option Addr) (u : Nat), v = (.slice z H.length u : Value) ∧ ownS Gx.encB H z u s, fun f v s => ∃ (az : Option Addr) (au : Nat), v = (.slice az ([] : List Bool).length au : Value) ∧ ownS Gx.encB ([] : List Bool) az au s, fun f v s => v = (pB n 2 : Value) ∧ s = [], fun f v s => v = (.slice T c.Raised.length P : Value) ∧ s = [], fun f v s => ∃ (B : Option Addr) (x : Nat), v = (.slice B I.length x : Value) ∧ ownS Gx.encB I B x s, fun f v s => ∃ (V : Option Addr) (U : Nat) (am : Seg) (a3 : Seg), v = (.slice V ([] : List Interface).length U : Value) ∧ s = (am ++ a3) ∧ ownD deepInterface ([] : List Interface) V U am a3, fun f v s => v = (.agg #[(atPath (f 3) []), (atPath (f 7) []), (atPath (f 11) []), (atPath (f 12) [])] : Value) ∧ s = [], fun f v s => ∃ (q : Nat), v = (pB q 0 : Value) ∧ s = [(q, .cells ⟨[.slice none 0 0, .slice none 0 0, .slice none 0 0, .slice none 0 0]⟩ 32 (0, 0))]] : List ((Nat → Value) → Value → Seg → Prop)).getD i (fun _ _ _ => False)) j f v s) [] [3, 7, 11, 12, 13, 14] [3, 7, 11, 12, 14] (fun _ _ _ s h => ⟨s, h⟩) (by kernel_rfl) (by kernel_rfl) (cv.preNil 15) (by kernel_rfl) (by kernel_rfl) (by kernel_rfl) (by kernel_rfl) (allOb_cons ?_ (allOb_cons ?_ (allOb_cons ?_ (allOb_cons ?_ (allOb_cons ?_ (allOb_cons ?_ (allOb_cons ?_ (allOb_cons ?_ (allOb_cons ?_ (allOb_cons ?_ (allOb_cons ?_ (allOb_cons ?_ (allOb_cons ?_ (allOb_cons ?_ (allOb_cons ?_ allOb_nil))))))))))))))) ?_)
 ·intro d W
  intro R e4 cw
  exact wL (E := encRoute) ([] : List Route) 0 [] 129 cw fun ax aq ea e5 bi cx => WN (oE (.slice ax ([] : List Route).length aq) ea ⟨ax, aq, rfl, bi⟩ (Mem.mid cx))
 ·intro d W
  intro R eg cy
  exact MW 1 (WN (oE (pB n 0) [] ⟨by kernel_rfl, rfl⟩ cy))
 ·intro d W
  intro v1_ hb1_
  obtain ⟨rfl, _⟩ := hb1_
  intro R eh bw
  exact wV (.slice Q c.Routes.length N) eh (eL false 1 0 (bw.blk 0 rfl)) (WN (oE (.slice Q c.Routes.length N) [] ⟨by kernel_rfl, rfl⟩ bw))
 ·intro d W
  intro v0_ hb0_
  obtain ⟨ax, aq, rfl, bi⟩ := hb0_
  intro v2_ hb2_
  obtain ⟨rfl, _⟩ := hb2_
  intro R e6 bx
  exact wA 16 [iv 0, iv 0] 3 bx bi (dq.mem0 bx) dw fun y t eb e7 bj cz => WN (oE (.slice y G.length t) eb ⟨y, t, rfl, bj⟩ (Mem.takeOver cz))
 ·intro d W
  intro R e8 c0
  exact wL (E := Gx.encB) ([] : List Bool) 0 [] 4 c0 fun ay ar ec e9 bk c1 => WN (oE (.slice ay ([] : List Bool).length ar) ec ⟨ay, ar, rfl, bk⟩ (Mem.mid c1))
 ·intro d W
  intro R ei c2
  exact MW 1 (WN (oE (pB n 1) [] ⟨by kernel_rfl, rfl⟩ c2))
 ·intro d W
  intro v5_ hb5_
  obtain ⟨rfl, _⟩ := hb5_
  intro R ej bz
  exact wV (.slice S c.Enabled.length O) ej (eL false 1 1 (bz.blk 0 rfl)) (WN (oE (.slice S c.Enabled.length O) [] ⟨by kernel_rfl, rfl⟩ bz))
 ·intro d W
  intro v4_ hb4_
  obtain ⟨ay, ar, rfl, bk⟩ := hb4_
  intro v6_ hb6_
  obtain ⟨rfl, _⟩ := hb6_
  intro R fa b0
  exact wA 1 [.bool false] 3 b0 bk (dr.mem0 b0) dx fun z u ed fb bl c3 => WN (oE (.slice z H.length u) ed ⟨z, u, rfl, bl⟩ (Mem.takeOver c3))
 ·intro d W
  intro R fc c4
  exact wL (E := Gx.encB) ([] : List Bool) 0 [] 4 c4 fun az au ee fd bm c5 => WN (oE (.slice az ([] : List Bool).length au) ee ⟨az, au, rfl, bm⟩ (Mem.mid c5))
 ·intro d W
  intro R ek c6
  exact MW 1 (WN (oE (pB n 2) [] ⟨by kernel_rfl, rfl⟩ c6))
 ·intro d W
  intro v9_ hb9_
  obtain ⟨rfl, _⟩ := hb9_
  intro R el b1
  exact wV (.slice T c.Raised.length P) el (eL false 1 2 (b1.blk 0 rfl)) (WN (oE (.slice T c.Raised.length P) [] ⟨by kernel_rfl, rfl⟩ b1))
 ·intro d W
  intro v8_ hb8_
  obtain ⟨az, au, rfl, bm⟩ := hb8_
  intro v10_ hb10_
  obtain ⟨rfl, _⟩ := hb10_
  intro R fe b2
  exact wA 1 [.bool false] 3 b2 bm (ds.mem0 b2) dy fun B x ef ff bn c7 => WN (oE (.slice B I.length x) ef ⟨B, x, rfl, bn⟩ (Mem.takeOver c7))
 ·intro d W
  intro R fg c8
  exact W_litD (D := deepInterface) (s1 := []) [] ([] : List Interface) rfl 0 [] 87 c8 (by kernel_rfl) (by kernel_rfl) (by kernel_rfl) (by kernel_rfl) (by kernel_rfl) ownI_nil fun V U am fh bo c9 => WN (oE (.slice V ([] : List Interface).length U) (am ++ []) ⟨V, U, am, [], rfl, rfl, bo⟩ (Mem.mid (by rw [List.append_nil]; exact c9)))
 ·intro d W
  intro v3_ hb3_
  obtain ⟨_, y, t, rfl, _⟩ := hb3_
  intro v7_ hb7_
  obtain ⟨_, z, u, rfl, _⟩ := hb7_
  intro v11_ hb11_
  obtain ⟨_, B, x, rfl, _⟩ := hb11_
  intro v12_ hb12_
  obtain ⟨_, V, U, _, _, rfl, _⟩ := hb12_
  intro R em da
  exact MW 1 (WN (oE (.agg #[.slice y G.length t, .slice z H.length u, .slice B I.length x, .slice V ([] : List Interface).length U]) [] ⟨by kernel_rfl, rfl⟩ da))
 ·intro d W
  intro R fi db
  exact wN (.cells ⟨[.slice none 0 0, .slice none 0 0, .slice none 0 0, .slice none 0 0]⟩ 32 (0, 0)) db fun q fj dc => WN (oE (pB q 0) [(q, .cells ⟨[.slice none 0 0, .slice none 0 0, .slice none 0 0, .slice none 0 0]⟩ 32 (0, 0))] ⟨q, rfl, rfl⟩ (Mem.mid dc))
 intro d W
 intro v3_ hb3_
 obtain ⟨y, t, rfl, bj⟩ := hb3_
 intro v7_ hb7_
 obtain ⟨z, u, rfl, bl⟩ := hb7_
 intro v11_ hb11_
 obtain ⟨B, x, rfl, bn⟩ := hb11_
 intro v12_ hb12_
 obtain ⟨V, U, am, a3, rfl, hs12_, bo⟩ := hb12_
 intro v13_ hb13_
 obtain ⟨hv13_, _⟩ := hb13_
 obtain rfl : v13_ = (.agg #[.slice y G.length t, .slice z H.length u, .slice B I.length x, .slice V ([] : List Interface).length U] : Value) := hv13_.trans (by kernel_rfl)
 intro v14_ hb14_
 obtain ⟨q, rfl, hs14_⟩ := hb14_
 intro cp dd
 have a5 : Mem [] w cp [[(n, .cells ⟨[.slice Q c.Routes.length N, .slice S c.Enabled.length O, .slice T c.Raised.length P, .slice J c.Cpus.length L]⟩ 32 (0, 0))], [(K, .cells ⟨[.slice none 0 0, .slice none 0 0, .slice none 0 0, .slice none 0 0]⟩ 32 (0, 0))], (d 3), (d 7), (d 11), (d 12), (d 14)] := dd
 rw [hs12_] at a5
 rw [hs14_] at a5
 replace a5 : Mem [] w cp [[(n, .cells ⟨[.slice Q c.Routes.length N, .slice S c.Enabled.length O, .slice T c.Raised.length P, .slice J c.Cpus.length L]⟩ 32 (0, 0))], [(K, .cells ⟨[.slice none 0 0, .slice none 0 0, .slice none 0 0, .slice none 0 0]⟩ 32 (0, 0))], (d 3), (d 7), (d 11), am, a3, [(q, .cells ⟨[.slice none 0 0, .slice none 0 0, .slice none 0 0, .slice none 0 0]⟩ 32 (0, 0))]] := a5.permF (by simp)
 refine wS true 4 0 (.agg #[.slice y G.length t, .slice z H.length u, .slice B I.length x, .slice V ([] : List Interface).length U]) 7 [.slice y G.length t, .slice z H.length u, .slice B I.length x, .slice V ([] : List Interface).length U] a5 rfl fun en de => NB (wR 1 [(1, pB n 0), (2, pB K 0), (3, pB q 0), (4, iv 0)] en (NO ?_))
 obtain ⟨aw, d7, d1⟩ := gx_bind hm
 refine G_meet (fun a w' => ∃ (ai : Option Addr), ∃ (ad : Nat), ∃ (bc : Seg), ∃ (bd : Seg), ownD deepInterface aw ai ad bc bd ∧ Mem [] w w' [[(K, .cells ⟨[.slice none 0 0, .slice none 0 0, .slice none 0 0, .slice none 0 0]⟩ 32 (0, 0))], (d 3), (d 7), (d 11), [(q, .cells ⟨[.slice y G.length t, .slice z H.length u, .slice B I.length x, .slice ai aw.length ad]⟩ 32 (0, 0))], bc, bd] ∧ Sat Tryz.f88.ntmps [(2, pB K 0), (3, pB q 0)] a) ?_ ?_
 ·refine GB (G_while (σ := Int × List Interface) (ρ := List Interface) (fun C a w' => ∃ (Y : Option Addr), ∃ (X : Nat), ∃ (a4 : Seg), ∃ (an : Seg), ownD deepInterface C.2 Y X a4 an ∧ Mem [] w w' [[(n, .cells ⟨[.slice Q c.Routes.length N, .slice S c.Enabled.length O, .slice T c.Raised.length P, .slice J c.Cpus.length L]⟩ 32 (0, 0))], [(K, .cells ⟨[.slice none 0 0, .slice none 0 0, .slice none 0 0, .slice none 0 0]⟩ 32 (0, 0))], (d 3), (d 7), (d 11), [(q, .cells ⟨[.slice y G.length t, .slice z H.length u, .slice B I.length x, .slice Y C.2.length X]⟩ 32 (0, 0))], a4, an] ∧ Sat Tryz.f88.ntmps [(1, pB n 0), (2, pB K 0), (3, pB q 0), (4, iv C.1)] a) d7 (fun a ha => ⟨V, U, am, a3, bo, de.pk [0, 1, 2, 3, 4, 7, 5, 6], ha.s⟩) ?_)
  clear hm
  intro C fn hm d4 e0 bu ⟨Y, X, a4, an, cd, be, du⟩
  refine G_use du (QB (MW 2 (wV (.slice J c.Cpus.length L) bu (eL false 1 3 (be.blk 0 rfl)) (wR 2 [(1, pB n 0), (2, pB K 0), (3, pB q 0), (4, iv C.1), (23, .bool (decide (C.1 < (c.Cpus.length : Int))))] bu (NO ?_)))))
  rcases gx_bif hm with ⟨bg, hm⟩ | ⟨bg, hm⟩
  ·refine gT bg (GK (TN (GS (GB ?_))))
   obtain ⟨F, d8, hm⟩ := gx_bind hm
   obtain ⟨fo, cf, ce, bh⟩ := id dt
   obtain ⟨m, a7⟩ := gxIdx_fst cf d8
   obtain ⟨l, d5, hm⟩ := gx_bind hm
   refine G_sub [(1, pB n 0), (2, pB K 0), (3, pB q 0), (4, iv C.1), (23, .bool (decide (C.1 < (c.Cpus.length : Int))))] (by kernel_rfl) (G_dagL 9 [[], [0], [], [2], [], [3, 4], [5], [6], [7]] [[], [], [], [], [], [], [], [], [7]] [[], [], [], [], [], [], [], [], []] [[], [], [], [], [], [], [], [], []] [[], [], [], [], [], [], [], [], []] [[], [], [], [], [], [], [], [], []] (fun _ => []) (fun i => ([fun f v s => v = (pB q 3 : Value) ∧ s = [], fun f v s => v = (.slice Y C.2.length X : Value) ∧ s = [], fun f v s => v = (pB n 3 : Value) ∧ s = [], fun f v s => v = (.slice J c.Cpus.length L : Value) ∧ s = [], fun f v s => v = (iv C.1 : Value) ∧ s = [], fun f v s => v = (elemP J (C.1.toNat * 4) : Value) ∧ s = [], fun f v s => v = (.agg #[iv F.Mask, .slice ((m 0).1) F.Stack.length ((m 0).2), .slice ((m 1).1) F.Queue.Slots.length ((m 1).2), .slice ((m 2).1) F.Queue.Waiting.length ((m 2).2)] : Value) ∧ s = [], fun f v s => ∃ (aj : Option Addr) (ae : Nat) (Z : Seg), ∃ (ak : Option Addr) (af : Nat) (aa : Seg), ∃ (al : Option Addr) (ag : Nat) (ab : Seg), v = (.agg #[iv l.Mask, .slice aj l.Stack.length ae, .slice ak l.Queue.Slots.length af, .slice al l.Queue.Waiting.length ag] : Value) ∧ s = (Z ++ (aa ++ ab)) ∧ ownS Gx.encI l.Stack aj ae Z ∧ ownS encSlot l.Queue.Slots ak af aa ∧ ownS encWaiter l.Queue.Waiting al ag ab, fun f v s => ∃ (a0 : Option Addr) (ap : Nat) (ac : Seg) (ao : Seg), v = (.slice a0 [l].length ap : Value) ∧ s = (ac ++ ao) ∧ ownD deepInterface [l] a0 ap ac ao] : List ((Nat → Value) → Value → Seg → Prop)).getD i (fun _ _ _ => False)) (fun j f v => ∃ s, (fun i => ([fun f v s => v = (pB q 3 : Value) ∧ s = [], fun f v s => v = (.slice Y C.2.length X : Value) ∧ s = [], fun f v s => v = (pB n 3 : Value) ∧ s = [], fun f v s => v = (.slice J c.Cpus.length L : Value) ∧ s = [], fun f v s => v = (iv C.1 : Value) ∧ s = [], fun f v s => v = (elemP J (C.1.toNat * 4) : Value) ∧ s = [], fun f v s => v = (.agg #[iv F.Mask, .slice ((m 0).1) F.Stack.length ((m 0).2), .slice ((m 1).1) F.Queue.Slots.length ((m 1).2), .slice ((m 2).1) F.Queue.Waiting.length ((m 2).2)] : Value) ∧ s = [], fun f v s => ∃ (aj : Option Addr) (ae : Nat) (Z : Seg), ∃ (ak : Option Addr) (af : Nat) (aa : Seg), ∃ (al : Option Addr) (ag : Nat) (ab : Seg), v = (.agg #[iv l.Mask, .slice aj l.Stack.length ae, .slice ak l.Queue.Slots.length af, .slice al l.Queue.Waiting.length ag] : Value) ∧ s = (Z ++ (aa ++ ab)) ∧ ownS Gx.encI l.Stack aj ae Z ∧ ownS encSlot l.Queue.Slots ak af aa ∧ ownS encWaiter l.Queue.Waiting al ag ab, fun f v s => ∃ (a0 : Option Addr) (ap : Nat) (ac : Seg) (ao : Seg), v = (.slice a0 [l].length ap : Value) ∧ s = (ac ++ ao) ∧ ownD deepInterface [l] a0 ap ac ao] : List ((Nat → Value) → Value → Seg → Prop)).getD i (fun _ _ _ => False)) j f v s) [] [1, 8] [8] (fun _ _ _ s h => ⟨s, h⟩) (by kernel_rfl) (by kernel_rfl) (be.preNil 9) (by kernel_rfl) (by kernel_rfl) (by kernel_rfl) (by kernel_rfl) (allOb_cons ?_ (allOb_cons ?_ (allOb_cons ?_ (allOb_cons ?_ (allOb_cons ?_ (allOb_cons ?_ (allOb_cons ?_ (allOb_cons ?_ (allOb_cons ?_ allOb_nil))))))))) ?_)
   ·intro ah av
    intro R eo df
    exact MW 1 (WN (oE (pB q 3) [] ⟨by kernel_rfl, rfl⟩ df))
   ·intro ah av
    intro v0_ hb0_
    obtain ⟨rfl, _⟩ := hb0_
    intro R ep b3
    exact wV (.slice Y C.2.length X) ep (eL false 1 3 (b3.blk 5 rfl)) (WN (oE (.slice Y C.2.length X) [] ⟨by kernel_rfl, rfl⟩ b3))
   ·intro ah av
    intro R er dg
    exact MW 1 (WN (oE (pB n 3) [] ⟨by kernel_rfl, rfl⟩ dg))
   ·intro ah av
    intro v2_ hb2_
    obtain ⟨rfl, _⟩ := hb2_
    intro R es b4
    exact wV (.slice J c.Cpus.length L) es (eL false 1 3 (b4.blk 0 rfl)) (WN (oE (.slice J c.Cpus.length L) [] ⟨by kernel_rfl, rfl⟩ b4))
   ·intro ah av
    intro R et dh
    exact MW 1 (WN (oE (iv C.1) [] ⟨by kernel_rfl, rfl⟩ dh))
   ·intro ah av
    intro v3_ hb3_
    obtain ⟨rfl, _⟩ := hb3_
    intro v4_ hb4_
    obtain ⟨rfl, _⟩ := hb4_
    intro R eu b5
    exact wV (elemP J (C.1.toNat * 4)) eu (eI (ce.mem0 b5) (len_fst cf) a7) (WN (oE (elemP J (C.1.toNat * 4)) [] ⟨by kernel_rfl, rfl⟩ b5))
   ·intro ah av
    intro v5_ hb5_
    obtain ⟨rfl, _⟩ := hb5_
    intro R ev b6
    exact wV (.agg #[iv F.Mask, .slice ((m 0).1) F.Stack.length ((m 0).2), .slice ((m 1).1) F.Queue.Slots.length ((m 1).2), .slice ((m 2).1) F.Queue.Waiting.length ((m 2).2)]) ev (eE true 4 0 (C.1.toNat * 4) (ce.mem0 b6) a7) (WN (oE (.agg #[iv F.Mask, .slice ((m 0).1) F.Stack.length ((m 0).2), .slice ((m 1).1) F.Queue.Slots.length ((m 1).2), .slice ((m 2).1) F.Queue.Waiting.length ((m 2).2)]) [] ⟨by kernel_rfl, rfl⟩ b6))
   ·intro ah av
    intro v6_ hb6_
    obtain ⟨rfl, _⟩ := hb6_
    intro R ew a8
    refine WC ((c_s_l10Own ew F ((m 0).1) ((m 0).2) ((bh.mem0 a8).at_ a7 0 ⟨Int, Gx.encI, F.Stack, (m 0).1, (m 0).2⟩ (by kernel_rfl)) ((m 1).1) ((m 1).2) ((bh.mem0 a8).at_ a7 1 ⟨Slot, encSlot, F.Queue.Slots, (m 1).1, (m 1).2⟩ (by kernel_rfl)) ((m 2).1) ((m 2).2) ((bh.mem0 a8).at_ a7 2 ⟨Waiter, encWaiter, F.Queue.Waiting, (m 2).1, (m 2).2⟩ (by kernel_rfl)) d5).mono ?_)
    rintro e_ fk ⟨aj, ae, Z, ak, af, aa, al, ag, ab, rfl, bp, bq, br, ct⟩
    refine ⟨_, rfl, ?_⟩
    exact WN (oE (.agg #[iv l.Mask, .slice aj l.Stack.length ae, .slice ak l.Queue.Slots.length af, .slice al l.Queue.Waiting.length ag]) (Z ++ (aa ++ ab)) ⟨aj, ae, Z, ak, af, aa, al, ag, ab, rfl, rfl, bp, bq, br⟩ (Mem.callMid a8 (ct.permF (by simp))))
   ·intro ah av
    intro v7_ hb7_
    obtain ⟨aj, ae, Z, ak, af, aa, al, ag, ab, rfl, hs7_, bp, bq, br⟩ := hb7_
    intro R cq di
    have a9 : Mem [] w cq ([[(n, .cells ⟨[.slice Q c.Routes.length N, .slice S c.Enabled.length O, .slice T c.Raised.length P, .slice J c.Cpus.length L]⟩ 32 (0, 0))], [(K, .cells ⟨[.slice none 0 0, .slice none 0 0, .slice none 0 0, .slice none 0 0]⟩ 32 (0, 0))], (d 3), (d 7), (d 11), [(q, .cells ⟨[.slice y G.length t, .slice z H.length u, .slice B I.length x, .slice Y C.2.length X]⟩ 32 (0, 0))], a4, an] ++ ([[]] ++ ([(ah 7)] ++ ([] ++ R)))) := di
    rw [hs7_] at a9
    replace a9 : Mem [] w cq ([[(n, .cells ⟨[.slice Q c.Routes.length N, .slice S c.Enabled.length O, .slice T c.Raised.length P, .slice J c.Cpus.length L]⟩ 32 (0, 0))], [(K, .cells ⟨[.slice none 0 0, .slice none 0 0, .slice none 0 0, .slice none 0 0]⟩ 32 (0, 0))], (d 3), (d 7), (d 11), [(q, .cells ⟨[.slice y G.length t, .slice z H.length u, .slice B I.length x, .slice Y C.2.length X]⟩ 32 (0, 0))], a4, an] ++ ([[]] ++ ([Z, aa, ab] ++ ([] ++ R)))) := a9.permF (by simp)
    exact W_litD (D := deepInterface) [(l, plOf [(aj, ae), (ak, af), (al, ag)])] [l] rfl 1 [iv l.Mask, .slice aj l.Stack.length ae, .slice ak l.Queue.Slots.length af, .slice al l.Queue.Waiting.length ag] 87 a9 (by kernel_rfl) (by kernel_rfl) (by kernel_rfl) (by kernel_rfl) (by kernel_rfl) (ownI_cons (i := ⟨Int, Gx.encI, _, _, _⟩) bp (ownI_cons (i := ⟨Slot, encSlot, _, _, _⟩) bq (ownI_cons (i := ⟨Waiter, encWaiter, _, _, _⟩) br ownI_nil))) fun a0 ap ac fl bs dj => WN (oE (.slice a0 [l].length ap) (ac ++ (Z ++ (aa ++ (ab ++ [])))) ⟨a0, ap, ac, (Z ++ (aa ++ (ab ++ []))), rfl, rfl, bs⟩ (Mem.midJ (A := [Z, aa, ab]) dj))
   intro ah av
   intro v1_ hb1_
   obtain ⟨rfl, _⟩ := hb1_
   intro v8_ hb8_
   obtain ⟨a0, ap, ac, ao, rfl, hs8_, bs⟩ := hb8_
   intro cr dk
   have a6 : Mem [] w cr [[(n, .cells ⟨[.slice Q c.Routes.length N, .slice S c.Enabled.length O, .slice T c.Raised.length P, .slice J c.Cpus.length L]⟩ 32 (0, 0))], [(K, .cells ⟨[.slice none 0 0, .slice none 0 0, .slice none 0 0, .slice none 0 0]⟩ 32 (0, 0))], (d 3), (d 7), (d 11), [(q, .cells ⟨[.slice y G.length t, .slice z H.length u, .slice B I.length x, .slice Y C.2.length X]⟩ 32 (0, 0))], a4, an, (ah 8)] := dk
   rw [hs8_] at a6
   replace a6 : Mem [] w cr [[(n, .cells ⟨[.slice Q c.Routes.length N, .slice S c.Enabled.length O, .slice T c.Raised.length P, .slice J c.Cpus.length L]⟩ 32 (0, 0))], [(K, .cells ⟨[.slice none 0 0, .slice none 0 0, .slice none 0 0, .slice none 0 0]⟩ 32 (0, 0))], (d 3), (d 7), (d 11), [(q, .cells ⟨[.slice y G.length t, .slice z H.length u, .slice B I.length x, .slice Y C.2.length X]⟩ 32 (0, 0))], a4, an, ac, ao] := a6.permF (by simp)
   obtain ⟨bf, dz, hm⟩ := gx_bind hm
   obtain ⟨ez, d9, d6, d0⟩ := id bs
   refine W_appendD (D := deepInterface) (us := ez) (s2 := ao) _ _ _ 80 [iv 0, .slice none 0 0, .slice none 0 0, .slice none 0 0] 6 ap a6 cd (by kernel_rfl) (by kernel_rfl) (by kernel_rfl) rfl (by kernel_rfl) (by kernel_rfl) (by kernel_rfl) (by kernel_rfl) (by kernel_rfl) (by kernel_rfl) (d6.r a6 8) d9 d0 dz ?_
   intro bb ba bt bv d3 dl
   have dm : Mem [] w bv [[(n, .cells ⟨[.slice Q c.Routes.length N, .slice S c.Enabled.length O, .slice T c.Raised.length P, .slice J c.Cpus.length L]⟩ 32 (0, 0))], [(K, .cells ⟨[.slice none 0 0, .slice none 0 0, .slice none 0 0, .slice none 0 0]⟩ 32 (0, 0))], (d 3), (d 7), (d 11), [(q, .cells ⟨[.slice y G.length t, .slice z H.length u, .slice B I.length x, .slice Y C.2.length X]⟩ 32 (0, 0))], bt, ac, an, ao] := dl.pk [0, 1, 2, 3, 4, 5, 6, 8, 7, 9]
   have dn : Mem [] w bv [[(n, .cells ⟨[.slice Q c.Routes.length N, .slice S c.Enabled.length O, .slice T c.Raised.length P, .slice J c.Cpus.length L]⟩ 32 (0, 0))], [(K, .cells ⟨[.slice none 0 0, .slice none 0 0, .slice none 0 0, .slice none 0 0]⟩ 32 (0, 0))], (d 3), (d 7), (d 11), [(q, .cells ⟨[.slice y G.length t, .slice z H.length u, .slice B I.length x, .slice Y C.2.length X]⟩ 32 (0, 0))], bt, ac, (an ++ ao)] := dm.regroup (by simp)
   refine wR 1 [(1, pB n 0), (2, pB K 0), (3, pB q 0), (4, iv C.1), (35, .slice bb bf.length ba), (36, pB q 3)] bv (wS false 1 3 (.slice bb bf.length ba) 5 [.slice y G.length t, .slice z H.length u, .slice B I.length x, .slice bb bf.length ba] dn rfl fun ex dp => NG (wR 3 [(1, pB n 0), (2, pB K 0), (3, pB q 0), (4, iv (w64 (C.1 + 1)))] ex (WN ?_)))
   cases hm
   exact N_loop fun a ha => ⟨_, rfl, bb, ba, bt, (an ++ ao), d3, dp.pk [0, 1, 2, 3, 4, 5, 6, 8], ha.s⟩
  refine gF bg (XA ?_)
  obtain rfl := HS hm
  obtain rfl := d4 _ rfl
  exact N_meet fun a ha => ⟨Y, X, a4, an, cd, be.pk [1, 2, 3, 4, 5, 6, 7], ha.s⟩
 intro e1 ey ⟨ai, ad, bc, bd, d2, b7, dv⟩
 refine N_use dv ?_
 have hm := d1
 refine NF (wV (.agg #[.slice y G.length t, .slice z H.length u, .slice B I.length x, .slice ai aw.length ad]) ey (eL true 4 0 (b7.blk 4 rfl)) (wS true 4 0 (.agg #[.slice y G.length t, .slice z H.length u, .slice B I.length x, .slice ai aw.length ad]) 0 [.slice y G.length t, .slice z H.length u, .slice B I.length x, .slice ai aw.length ad] b7 rfl fun fm b8 => NC ?_))
 obtain rfl := HS hm
 exact N_ret [.agg #[.slice y G.length t, .slice z H.length u, .slice B I.length x, .slice ai aw.length ad]] (RX true 4 0 (b8.blk 0 rfl) RVs_nil) (⟨y, t, (d 3), z, u, (d 7), B, x, (d 11), ai, ad, bc, bd, rfl, bj, bl, bn, d2, b8.pk [1, 2, 3, 5, 6]⟩)
theorem c_s_l8With (w : World) (g : List Slot) (j : Option Addr) (i : Nat) (z : rdS encSlot w g j i) (b : Int) (a : Slot) {r : (List Slot)} (hm : M.s_l8With g b a = some r) :
  Calls Tryz.prog 251 #[.slice j g.length i, iv b, .agg #[iv a.State, iv a.Irq, iv a.Priority]] w fun e w' => ∃ (t : Option Addr) (n : Nat) (u : Seg), e = .returned (.slice t r.length n) ∧ ownS encSlot r t n u ∧ Mem [] w w' [u] := by
 unfold M.s_l8With at hm
 refine cE Tryz.func251 ?_
 have M0 := Mem.refl [] w
 refine QA (wN (.cells ⟨[iv a.State, iv a.Irq, iv a.Priority]⟩ 117 (0, 0)) M0 fun h G v => wR 1 [(0, .slice j g.length i), (1, iv b), (5, pB h 0)] G (NA (wL (E := encSlot) ([] : List Slot) 0 [] 117 v fun D y K H B m => wR 1 [(1, iv b), (5, pB h 0), (8, .slice D ([] : List Slot).length y), (9, .slice j g.length i)] H ?_)))
 obtain ⟨c, A, hm⟩ := gx_bind hm
 refine wA 24 [iv 0, iv 0, iv 0] 1 m B (z.mem0 m) A fun d f L k o l => MW 1 (NA (wR 2 [(5, pB h 0), (7, .slice d c.length f), (11, .slice d c.length f), (12, iv b)] k (wV (.agg #[iv a.State, iv a.Irq, iv a.Priority]) k (eL true 3 0 (l.blk 0 rfl)) ?_)))
 obtain ⟨J, q, hm⟩ := gx_bind hm
 refine wV (elemP d (b.toNat * 3)) k (eI (o.r l 1) rfl q) (wE true 3 b.toNat 0 (b.toNat * 3) J a (.agg #[iv a.State, iv a.Irq, iv a.Priority]) 1 l o (gxIdx_spec q).2 fun I F C x => LX 7 d f c b.toNat a (LX 11 d f c b.toNat a (NA (wR 2 [(6, .slice d (c.set b.toNat a).length f)] I (NC ?_)))))
 cases hm
 exact RA [.slice d (c.set b.toNat a).length f] (⟨d, f, F, rfl, C, x.pk [1]⟩)
theorem c_s_l8Put (w : World) (c : List Slot) (b : Option Addr) (d : Nat) (l : rdS encSlot w c b d) (g : Int) (i : Int) {r : (List Slot) × Bool} (hm : M.s_l8Put c g i = some r) :
  Calls Tryz.prog 223 #[.slice b c.length d, iv g, iv i] w fun e w' => ∃ (L : Option Addr) (J : Nat) (P : Seg), e = .returned (.tuple #[.slice L r.1.length J, .bool r.2]) ∧ ownS encSlot r.1 L J P ∧ Mem [] w w' [P] := by
 unfold M.s_l8Put at hm
 refine cE Tryz.func223 ?_
 have M0 := Mem.refl [] w
 refine QA (MW 2 (NB (wR 2 [(0, .slice b c.length d), (1, iv g), (2, iv i), (11, .slice b c.length d), (12, iv g)] w ?_)))
 obtain ⟨h, af, hm⟩ := gx_bind hm
 refine WD (c_s_l8Find w c b d (l.mem0 M0) g af) M0 fun k n => MW 1 (NA (wR 2 [(0, .slice b c.length d), (1, iv g), (2, iv i), (8, iv h), (15, .bool (decide (h ≥ 0)))] k (NO ?_)))
 rcases gx_bif hm with ⟨B, hm⟩ | ⟨B, hm⟩
 ·refine gT B (QA (wR 2 [(0, .slice b c.length d), (8, iv h), (16, .slice b c.length d), (17, iv h)] k ?_))
  obtain ⟨f, K, hm⟩ := gx_bind hm
  refine wV (elemP b (h.toNat * 3)) k (eI (l.mem0 n) rfl K) (wV (.agg #[iv f.State, iv f.Irq, iv f.Priority]) k (eE true 3 0 (h.toNat * 3) (l.mem0 n) K) (wN (.cells ⟨[iv 0, iv 0, iv 0]⟩ 117 (0, 0)) n fun j aq U => wS true 3 0 (.agg #[iv f.State, iv f.Irq, iv f.Priority]) 0 [iv f.State, iv f.Irq, iv f.Priority] U rfl fun q u => NB (MW 1 (wV (iv f.State) q (eL false 1 0 (u.blk 0 rfl)) (wR 1 [(0, .slice b c.length d), (8, iv h), (9, pB j 0), (22, .bool (f.State == 2))] q (NO ?_))))))
  obtain ⟨o, ab, aa⟩ := gx_bind hm
  refine G_meet (fun a w' => Mem [] w w' [[(j, .cells ⟨[iv o, iv f.Irq, iv f.Priority]⟩ 117 (0, 0))]] ∧ Sat Tryz.f223.ntmps [(0, .slice b c.length d), (8, iv h), (9, pB j 0)] a) ?_ ?_
  ·have hm := ab
   rcases gx_bif hm with ⟨C, hm⟩ | ⟨C, hm⟩
   ·refine gT C (GR (wR 1 [(0, .slice b c.length d), (8, iv h), (9, pB j 0), (23, pB j 0)] q (wS false 1 0 (iv 3) 0 [iv 3, iv f.Irq, iv f.Priority] u rfl fun ar V => WN ?_)))
    obtain rfl := HS hm
    exact N_meet fun a ha => ⟨V.pk [0], ha.s⟩
   refine gF C (GK ?_)
   obtain rfl := HS hm
   exact N_meet fun a ha => ⟨u.pk [0], ha.s⟩
  intro ap I ⟨v, Z⟩
  refine N_use Z ?_
  have hm := aa
  refine NF (wR 2 [(9, pB j 0), (24, .slice b c.length d), (25, iv h)] I (wV (.agg #[iv o, iv f.Irq, iv f.Priority]) I (eL true 3 0 (v.blk 0 rfl)) ?_))
  obtain ⟨N, ag, hm⟩ := gx_bind hm
  refine WC ((c_s_l8With I c b d (l.mem0 v) h (⟨o, f.Irq, f.Priority⟩ : Slot) ag).mono ?_)
  rintro e_ am ⟨F, y, aj, rfl, ac, R⟩
  have W := v.call R
  refine ⟨_, rfl, ?_⟩
  refine wR 2 [(6, .slice F N.length y), (7, .bool true)] am (ND ?_)
  cases hm
  exact RA [.slice F N.length y, .bool true] (⟨F, y, aj, rfl, ac, W.pk [1]⟩)
 refine gF B (KA (wR 1 [(0, .slice b c.length d), (1, iv g), (2, iv i), (28, .slice b c.length d)] k ?_))
 obtain ⟨m, ah, hm⟩ := gx_bind hm
 refine WD (c_s_l8Free k c b d (l.mem0 n) ah) n fun t x => MW 1 (NB (wR 2 [(0, .slice b c.length d), (1, iv g), (2, iv i), (10, iv m), (31, .bool (decide (m < 0)))] t (NO ?_)))
 rcases gx_bif hm with ⟨D, hm⟩ | ⟨D, hm⟩
 ·refine gT D (QA (wL (E := encSlot) ([] : List Slot) 0 [] 117 x fun G z ak an ad X => wR 2 [(6, .slice G ([] : List Slot).length z), (7, .bool false)] an (ND ?_)))
  cases hm
  exact RA [.slice G ([] : List Slot).length z, .bool false] (⟨G, z, ak, rfl, ad, X.pk [0]⟩)
 refine gF D (KA (wR 5 [(33, .slice b c.length d), (34, iv m), (37, .agg #[iv 1, iv g, iv i])] t ?_))
 obtain ⟨O, ai, hm⟩ := gx_bind hm
 refine WC ((c_s_l8With t c b d (l.mem0 x) m (⟨1, g, i⟩ : Slot) ai).mono ?_)
 rintro e_ ao ⟨H, A, al, rfl, ae, T⟩
 have Y := x.call T
 refine ⟨_, rfl, ?_⟩
 refine wR 2 [(6, .slice H O.length A), (7, .bool true)] ao (NC ?_)
 cases hm
 exact RA [.slice H O.length A, .bool true] (⟨H, A, al, rfl, ae, Y.pk [0]⟩)
theorem c_s_l9Settle (w : World) (H : Queue) (X : Option Addr) (U : Nat) (cl : rdS encSlot w H.Slots X U) (Y : Option Addr) (V : Nat) (cm : rdS encWaiter w H.Waiting Y V) {r : Queue} (hm : M.s_l9Settle H = some r) :
  Calls Tryz.prog 224 #[.agg #[.slice X H.Slots.length U, .slice Y H.Waiting.length V]] w fun e w' => ∃ (bn : Option Addr) (bh : Nat) (bq : Seg), ∃ (bo : Option Addr) (bi : Nat) (br : Seg), e = .returned (.agg #[.slice bn r.Slots.length bh, .slice bo r.Waiting.length bi]) ∧ ownS encSlot r.Slots bn bh bq ∧ ownS encWaiter r.Waiting bo bi br ∧ Mem [] w w' [bq, br] := by
 unfold M.s_l9Settle at hm
 refine cE Tryz.func224 ?_
 have M0 := Mem.refl [] w
 refine QA (wN (.cells ⟨[.slice X H.Slots.length U, .slice Y H.Waiting.length V]⟩ 85 (0, 0)) M0 fun d5 d7 b3 => wN (.cells ⟨[.slice none 0 0, .slice none 0 0]⟩ 85 (0, 0)) b3 fun q bt af => NA (wV (.agg #[.slice X H.Slots.length U, .slice Y H.Waiting.length V]) bt (eL true 2 0 (af.blk 0 rfl)) ?_))
 obtain ⟨al, c4, hm⟩ := gx_bind hm
 refine WC ((c_s_l9Own bt H X U (cl.mem0 af) Y V (cm.mem0 af) c4).mono ?_)
 rintro e_ d8 ⟨a0, au, de, a3, av, df, rfl, cu, cv, bw⟩
 have b4 := af.call bw
 refine ⟨_, rfl, ?_⟩
 refine wN (.cells ⟨[.slice none 0 0, .slice none 0 0]⟩ 85 (0, 0)) b4 fun l d9 b5 => wS true 2 0 (.agg #[.slice a0 al.Slots.length au, .slice a3 al.Waiting.length av]) 4 [.slice a0 al.Slots.length au, .slice a3 al.Waiting.length av] b5 rfl fun ea b6 => NE ?_
 obtain ⟨u, da, ct⟩ := gx_bind hm
 refine G_meet (fun a w' => ∃ (N : Option Addr), ∃ (I : Nat), ∃ (an : Seg), ∃ (O : Option Addr), ∃ (J : Nat), ∃ (ao : Seg), ownS encSlot u.1 N I an ∧ ownS encWaiter u.2 O J ao ∧ Mem [] w w' [[(q, .cells ⟨[.slice none 0 0, .slice none 0 0]⟩ 85 (0, 0))], [(l, .cells ⟨[.slice N u.1.length I, .slice O u.2.length J]⟩ 85 (0, 0))], an, ao] ∧ Sat Tryz.f224.ntmps [(2, pB q 0), (3, pB l 0)] a) ?_ ?_
 ·refine GB (G_while (σ := List Slot × List Waiter) (ρ := List Slot × List Waiter) (fun d a w' => ∃ (c : Option Addr), ∃ (n : Nat), ∃ (Z : Seg), ∃ (G : Option Addr), ∃ (F : Nat), ∃ (aa : Seg), ownS encSlot d.1 c n Z ∧ ownS encWaiter d.2 G F aa ∧ Mem [] w w' [[(q, .cells ⟨[.slice none 0 0, .slice none 0 0]⟩ 85 (0, 0))], [(l, .cells ⟨[.slice c d.1.length n, .slice G d.2.length F]⟩ 85 (0, 0))], Z, aa] ∧ Sat Tryz.f224.ntmps [(2, pB q 0), (3, pB l 0)] a) da (fun a ha => ⟨a0, au, de, a3, av, df, cu, cv, b6.pk [1, 4, 2, 3], ha.s⟩) ?_)
  clear hm
  intro d ef hm c3 d2 bu ⟨c, n, Z, G, F, aa, L, W, ag, cn⟩
  refine G_use cn (QB (wV (.agg #[.slice c d.1.length n, .slice G d.2.length F]) bu (eL true 2 0 (ag.blk 1 rfl)) ?_))
  obtain ⟨dc, c5, hm⟩ := gx_bind hm
  refine WD (c_s_l9Settled bu (⟨d.1, d.2⟩ : Queue) c n (L.r ag 2) G F (W.r ag 3) c5) ag fun ad ab => wR 1 [(2, pB q 0), (3, pB l 0), (11, .bool (!dc))] ad (NO ?_)
  rcases gx_bif hm with ⟨aw, hm⟩ | ⟨aw, hm⟩
  ·refine gT aw (GK (TN (GB (QA (wR 1 [(2, pB q 0), (3, pB l 0), (12, pB l 1)] ad (wV (.slice G d.2.length F) ad (eL false 1 1 (ab.blk 1 rfl)) ?_))))))
   obtain ⟨t, bl, hm⟩ := gx_bind hm
   refine wV (elemP G ((0 : Int).toNat * 2)) ad (eI (W.r ab 3) rfl bl) (wV (.agg #[iv t.Irq, iv t.Priority]) ad (eE true 2 0 ((0 : Int).toNat * 2) (W.r ab 3) bl) (wN (.cells ⟨[iv 0, iv 0]⟩ 142 (0, 0)) ab fun x eb b7 => wS true 2 0 (.agg #[iv t.Irq, iv t.Priority]) 4 [iv t.Irq, iv t.Priority] b7 rfl fun ec b8 => NA (wL (E := encWaiter) ([] : List Waiter) 0 [] 142 b8 fun db ck d6 a5 cy ah => wR 1 [(2, pB q 0), (3, pB l 0), (4, pB x 0), (16, .slice db ([] : List Waiter).length ck), (17, pB l 1)] a5 (wV (.slice G d.2.length F) a5 (eL false 1 1 (ah.blk 1 rfl)) ?_))))
   obtain ⟨d1, bm, hm⟩ := gx_bind hm
   refine wV (.slice (subP G (1 : Int).toNat F 2) d1.length (F - (1 : Int).toNat)) a5 (E_slice (E := encWaiter) _ _ _ _ d.2.length 1 (d.2.length : Int) rfl (by kernel_rfl) (Or.inr ⟨_, rfl, by kernel_rfl⟩) (Or.inl ⟨rfl, rfl⟩) (by kernel_rfl) (W.r ah 3) rfl bm) ?_
   obtain ⟨D, cq, hm⟩ := gx_bind hm
   refine wA 16 [iv 0, iv 0] 5 ah cy ((W.r ah 3).sliceM bm) cq fun C z bs aq bk ar => MW 1 (NA (wR 1 [(2, pB q 0), (3, pB l 0), (4, pB x 0), (5, .slice C D.length z), (21, pB l 0)] aq (wV (.slice c d.1.length n) aq (eL false 1 0 (ar.blk 1 rfl)) ?_)))
   obtain ⟨am, c6, hm⟩ := gx_bind hm
   refine WD (c_s_l8Free aq d.1 c n (L.r ar 2) c6) ar fun ae ai => MW 1 (NB (wR 2 [(2, pB q 0), (3, pB l 0), (4, pB x 0), (5, .slice C D.length z), (6, iv am), (25, .bool (decide (am < 0)))] ae (NO ?_)))
   obtain ⟨y, cz, cr⟩ := gx_bind hm
   refine G_meet (fun a w' => ∃ (P : Option Addr), ∃ (K : Nat), ∃ (ap : Seg), ownS encWaiter y.1 P K ap ∧ Mem [] w w' [[(q, .cells ⟨[.slice none 0 0, .slice none 0 0]⟩ 85 (0, 0))], [(l, .cells ⟨[.slice c d.1.length n, .slice G d.2.length F]⟩ 85 (0, 0))], Z, aa, [(x, .cells ⟨[iv t.Irq, iv t.Priority]⟩ 142 (0, 0))], ap] ∧ Sat Tryz.f224.ntmps [(2, pB q 0), (3, pB l 0), (4, pB x 0), (5, .slice P y.1.length K), (6, iv y.2)] a) ?_ ?_
   ·have hm := cz
    rcases gx_bif hm with ⟨ax, hm⟩ | ⟨ax, hm⟩
    ·refine gT ax (QA (wR 1 [(2, pB q 0), (3, pB l 0), (4, pB x 0), (5, .slice C D.length z), (6, iv am), (26, pB l 0)] ae (wV (.slice c d.1.length n) ae (eL false 1 0 (ai.blk 1 rfl)) ?_)))
     obtain ⟨m, c7, hm⟩ := gx_bind hm
     refine WD (c_s_l8Best ae d.1 c n (L.r ai 2) false c7) ai fun di b9 => wR 1 [(2, pB q 0), (3, pB l 0), (4, pB x 0), (5, .slice C D.length z), (6, iv m)] di (NO ?_)
     obtain ⟨Q, ay, hm⟩ := gx_bind hm
     obtain ⟨S, az, hm⟩ := gx_bind hm
     refine G_sub [(2, pB q 0), (3, pB l 0), (4, pB x 0), (5, .slice C D.length z), (6, iv m)] (by kernel_rfl) (G_dagL 14 [[], [], [1], [], [2, 3], [4], [5], [], [7], [], [8, 9], [10], [11], [6, 12]] [[], [], [], [], [], [], [], [], [], [], [], [], [], []] [[], [], [], [], [], [], [], [], [], [], [], [], [], []] [[], [], [], [], [], [], [], [], [], [], [], [], [], []] [[], [], [], [], [], [], [], [], [], [], [], [], [], []] [[], [], [], [], [], [], [], [], [], [], [], [], [], []] (fun _ => []) (fun i => ([fun f v s => v = (.slice C D.length z : Value) ∧ s = [], fun f v s => v = (pB l 0 : Value) ∧ s = [], fun f v s => v = (.slice c d.1.length n : Value) ∧ s = [], fun f v s => v = (iv m : Value) ∧ s = [], fun f v s => v = (elemP c (m.toNat * 3) : Value) ∧ s = [], fun f v s => v = (elemP c (m.toNat * 3 + 1) : Value) ∧ s = [], fun f v s => v = (iv Q.Irq : Value) ∧ s = [], fun f v s => v = (pB l 0 : Value) ∧ s = [], fun f v s => v = (.slice c d.1.length n : Value) ∧ s = [], fun f v s => v = (iv m : Value) ∧ s = [], fun f v s => v = (elemP c (m.toNat * 3) : Value) ∧ s = [], fun f v s => v = (elemP c (m.toNat * 3 + 2) : Value) ∧ s = [], fun f v s => v = (iv S.Priority : Value) ∧ s = [], fun f v s => v = (.agg #[iv Q.Irq, iv S.Priority] : Value) ∧ s = []] : List ((Nat → Value) → Value → Seg → Prop)).getD i (fun _ _ _ => False)) (fun j f v => ∃ s, (fun i => ([fun f v s => v = (.slice C D.length z : Value) ∧ s = [], fun f v s => v = (pB l 0 : Value) ∧ s = [], fun f v s => v = (.slice c d.1.length n : Value) ∧ s = [], fun f v s => v = (iv m : Value) ∧ s = [], fun f v s => v = (elemP c (m.toNat * 3) : Value) ∧ s = [], fun f v s => v = (elemP c (m.toNat * 3 + 1) : Value) ∧ s = [], fun f v s => v = (iv Q.Irq : Value) ∧ s = [], fun f v s => v = (pB l 0 : Value) ∧ s = [], fun f v s => v = (.slice c d.1.length n : Value) ∧ s = [], fun f v s => v = (iv m : Value) ∧ s = [], fun f v s => v = (elemP c (m.toNat * 3) : Value) ∧ s = [], fun f v s => v = (elemP c (m.toNat * 3 + 2) : Value) ∧ s = [], fun f v s => v = (iv S.Priority : Value) ∧ s = [], fun f v s => v = (.agg #[iv Q.Irq, iv S.Priority] : Value) ∧ s = []] : List ((Nat → Value) → Value → Seg → Prop)).getD i (fun _ _ _ => False)) j f v s) [] [0, 13] [] (fun _ _ _ s h => ⟨s, h⟩) (by kernel_rfl) (by kernel_rfl) (b9.preNil 14) (by kernel_rfl) (by kernel_rfl) (by kernel_rfl) (by kernel_rfl) (allOb_cons ?_ (allOb_cons ?_ (allOb_cons ?_ (allOb_cons ?_ (allOb_cons ?_ (allOb_cons ?_ (allOb_cons ?_ (allOb_cons ?_ (allOb_cons ?_ (allOb_cons ?_ (allOb_cons ?_ (allOb_cons ?_ (allOb_cons ?_ (allOb_cons ?_ allOb_nil)))))))))))))) ?_)
     ·intro B A
      intro R dj ca
      exact MW 1 (WN (oE (.slice C D.length z) [] ⟨by kernel_rfl, rfl⟩ ca))
     ·intro B A
      intro R dk cb
      exact MW 1 (WN (oE (pB l 0) [] ⟨by kernel_rfl, rfl⟩ cb))
     ·intro B A
      intro v1_ hb1_
      obtain ⟨rfl, _⟩ := hb1_
      intro R dl a6
      exact wV (.slice c d.1.length n) dl (eL false 1 0 (a6.blk 1 rfl)) (WN (oE (.slice c d.1.length n) [] ⟨by kernel_rfl, rfl⟩ a6))
     ·intro B A
      intro R dm cc
      exact MW 1 (WN (oE (iv m) [] ⟨by kernel_rfl, rfl⟩ cc))
     ·intro B A
      intro v2_ hb2_
      obtain ⟨rfl, _⟩ := hb2_
      intro v3_ hb3_
      obtain ⟨rfl, _⟩ := hb3_
      intro R dn a7
      exact wV (elemP c (m.toNat * 3)) dn (eI (L.r a7 2) rfl ay) (WN (oE (elemP c (m.toNat * 3)) [] ⟨by kernel_rfl, rfl⟩ a7))
     ·intro B A
      intro v4_ hb4_
      obtain ⟨rfl, _⟩ := hb4_
      intro R dp a8
      exact wV (elemP c (m.toNat * 3 + 1)) dp (eF 1 (m.toNat * 3) 1 (L.r a8 2) ay) (WN (oE (elemP c (m.toNat * 3 + 1)) [] ⟨by kernel_rfl, rfl⟩ a8))
     ·intro B A
      intro v5_ hb5_
      obtain ⟨rfl, _⟩ := hb5_
      intro R dq a9
      exact wV (iv Q.Irq) dq (eE false 1 1 (m.toNat * 3 + 1) (L.r a9 2) ay) (WN (oE (iv Q.Irq) [] ⟨by kernel_rfl, rfl⟩ a9))
     ·intro B A
      intro R dr cd
      exact MW 1 (WN (oE (pB l 0) [] ⟨by kernel_rfl, rfl⟩ cd))
     ·intro B A
      intro v7_ hb7_
      obtain ⟨rfl, _⟩ := hb7_
      intro R ds ba
      exact wV (.slice c d.1.length n) ds (eL false 1 0 (ba.blk 1 rfl)) (WN (oE (.slice c d.1.length n) [] ⟨by kernel_rfl, rfl⟩ ba))
     ·intro B A
      intro R dt ce
      exact MW 1 (WN (oE (iv m) [] ⟨by kernel_rfl, rfl⟩ ce))
     ·intro B A
      intro v8_ hb8_
      obtain ⟨rfl, _⟩ := hb8_
      intro v9_ hb9_
      obtain ⟨rfl, _⟩ := hb9_
      intro R du bb
      exact wV (elemP c (m.toNat * 3)) du (eI (L.r bb 2) rfl az) (WN (oE (elemP c (m.toNat * 3)) [] ⟨by kernel_rfl, rfl⟩ bb))
     ·intro B A
      intro v10_ hb10_
      obtain ⟨rfl, _⟩ := hb10_
      intro R dv bc
      exact wV (elemP c (m.toNat * 3 + 2)) dv (eF 2 (m.toNat * 3) 2 (L.r bc 2) az) (WN (oE (elemP c (m.toNat * 3 + 2)) [] ⟨by kernel_rfl, rfl⟩ bc))
     ·intro B A
      intro v11_ hb11_
      obtain ⟨rfl, _⟩ := hb11_
      intro R dw bd
      exact wV (iv S.Priority) dw (eE false 1 2 (m.toNat * 3 + 2) (L.r bd 2) az) (WN (oE (iv S.Priority) [] ⟨by kernel_rfl, rfl⟩ bd))
     ·intro B A
      intro v6_ hb6_
      obtain ⟨rfl, _⟩ := hb6_
      intro v12_ hb12_
      obtain ⟨rfl, _⟩ := hb12_
      intro R dx cf
      exact MW 1 (WN (oE (.agg #[iv Q.Irq, iv S.Priority]) [] ⟨by kernel_rfl, rfl⟩ cf))
     intro B A
     intro v0_ hb0_
     obtain ⟨rfl, _⟩ := hb0_
     intro v13_ hb13_
     obtain ⟨rfl, _⟩ := hb13_
     intro bv cg
     have be : Mem [] w bv [[(q, .cells ⟨[.slice none 0 0, .slice none 0 0]⟩ 85 (0, 0))], [(l, .cells ⟨[.slice c d.1.length n, .slice G d.2.length F]⟩ 85 (0, 0))], Z, aa, [(x, .cells ⟨[iv t.Irq, iv t.Priority]⟩ 142 (0, 0))], bs] := cg
     obtain ⟨dd, c8, hm⟩ := gx_bind hm
     refine WC ((c_s_l9Wait bv D C z (bk.r be 5) (⟨Q.Irq, S.Priority⟩ : Waiter) c8).mono ?_)
     rintro e_ dy ⟨bp, bj, dg, rfl, c1, b1⟩
     have ch := be.call b1
     refine ⟨_, rfl, ?_⟩
     refine wR 1 [(2, pB q 0), (3, pB l 0), (4, pB x 0), (5, .slice bp dd.length bj), (6, iv m)] dy (WN ?_)
     obtain rfl := HS hm
     exact N_meet fun a ha => ⟨bp, bj, dg, c1, ch.pk [0, 1, 2, 3, 4, 6], ha.s⟩
    refine gF ax (GK ?_)
    obtain rfl := HS hm
    exact N_meet fun a ha => ⟨C, z, bs, bk, ai.pk [0, 1, 2, 3, 4, 5], ha.s⟩
   intro d3 T ⟨P, K, ap, c0, ac, co⟩
   refine N_use co ?_
   have hm := cr
   refine TN (GR (MW 1 (wV (.slice c d.1.length n) T (eL false 1 0 (ac.blk 1 rfl)) (MW 2 (wV (iv t.Irq) T (eL false 1 0 (ac.blk 4 rfl)) (MW 1 (wV (iv t.Priority) T (eL false 1 1 (ac.blk 4 rfl)) (wR 1 [(2, pB q 0), (3, pB l 0), (5, .slice P y.1.length K), (45, .slice c d.1.length n), (46, iv y.2), (51, .agg #[iv 1, iv t.Irq, iv t.Priority])] T ?_))))))))
   obtain ⟨a4, c9, hm⟩ := gx_bind hm
   refine WC ((c_s_l8With T d.1 c n (L.r ac 2) y.2 (⟨1, t.Irq, t.Priority⟩ : Slot) c9).mono ?_)
   rintro e_ dz ⟨ak, aj, dh, rfl, c2, b2⟩
   have ci := ac.call b2
   refine ⟨_, rfl, ?_⟩
   refine wR 2 [(2, pB q 0), (3, pB l 0), (54, .agg #[.slice ak a4.length aj, .slice P y.1.length K])] dz (wS true 2 0 (.agg #[.slice ak a4.length aj, .slice P y.1.length K]) 1 [.slice ak a4.length aj, .slice P y.1.length K] ci rfl fun ed cj => WN (BN ?_))
   cases hm
   exact N_loop fun a ha => ⟨_, rfl, ak, aj, dh, P, K, ap, c2, c0, cj.pk [0, 1, 6, 5], ha.s⟩
  refine gF aw (XA ?_)
  obtain rfl := HS hm
  obtain rfl := c3 _ rfl
  exact N_meet fun a ha => ⟨c, n, Z, G, F, aa, L, W, ab.pk [0, 1, 2, 3], ha.s⟩
 intro d4 d0 ⟨N, I, an, O, J, ao, cw, cx, bf, cp⟩
 refine N_use cp ?_
 have hm := ct
 refine NF (wV (.agg #[.slice N u.1.length I, .slice O u.2.length J]) d0 (eL true 2 0 (bf.blk 1 rfl)) (wS true 2 0 (.agg #[.slice N u.1.length I, .slice O u.2.length J]) 0 [.slice N u.1.length I, .slice O u.2.length J] bf rfl fun ee bg => NC ?_))
 obtain rfl := HS hm
 exact N_ret [.agg #[.slice N u.1.length I, .slice O u.2.length J]] (RX true 2 0 (bg.blk 0 rfl) RVs_nil) (⟨N, I, an, O, J, ao, rfl, cw, cx, bg.pk [2, 3]⟩)
theorem c_s_l9Has (w : World) (d : List Waiter) (c : Option Addr) (f : Nat) (j : rdS encWaiter w d c f) (g : Int) {r : Int} (hm : M.s_l9Has d g = some r) :
  Calls Tryz.prog 225 #[.slice c d.length f, iv g] w fun e w' => e = .returned (iv r) ∧ Mem [] w w' [] := by
 unfold M.s_l9Has at hm
 refine cE Tryz.func225 ?_
 have M0 := Mem.refl [] w
 refine QA (MW 1 (NB (wR 1 [(0, .slice c d.length f), (1, iv g), (5, iv 0)] w (NO ?_))))
 obtain ⟨z, y, n⟩ := gx_bind hm
 refine G_meet (fun a w' => ∃ (q : Unit), z = .inl q ∧ Mem [] w w' [] ∧ Sat Tryz.f225.ntmps [] a) ?_ ?_
 ·refine GB (G_while (σ := Int) (ρ := (Unit) ⊕ (Int)) (fun b a w' => Mem [] w w' [] ∧ Sat Tryz.f225.ntmps [(0, .slice c d.length f), (1, iv g), (5, iv b)] a) y (fun a ha => ⟨M0.pk [], ha.s⟩) ?_)
  clear hm
  intro b D hm o B h ⟨i, v⟩
  refine G_use v (QB (wR 4 [(0, .slice c d.length f), (1, iv g), (5, iv b), (9, .bool (decide (b < (d.length : Int))))] h (NO ?_)))
  rcases gx_bif hm with ⟨k, hm⟩ | ⟨k, hm⟩
  ·refine gT k (KD (wR 2 [(0, .slice c d.length f), (1, iv g), (5, iv b), (12, .slice c d.length f), (13, iv b)] h ?_))
   obtain ⟨t, m, hm⟩ := gx_bind hm
   refine wV (elemP c (b.toNat * 2)) h (eI (j.mem0 i) rfl m) (wV (elemP c (b.toNat * 2 + 0)) h (eF 0 (b.toNat * 2) 0 (j.mem0 i) m) (wV (iv t.Irq) h (eE false 1 0 (b.toNat * 2 + 0) (j.mem0 i) m) (wR 2 [(0, .slice c d.length f), (1, iv g), (5, iv b), (18, .bool (t.Irq == g))] h (NO ?_))))
   rcases gx_bif hm with ⟨l, hm⟩ | ⟨l, hm⟩
   ·refine gT l (QA (wR 2 [(4, iv b)] h (NX ?_)))
    obtain rfl := HS hm
    obtain rfl := o _ rfl
    have hm := n; simp only [Sum.elim_inr] at hm
    refine BR (N_meet_ret (TR ?_))
    obtain rfl := HS hm
    exact RA [iv b] (⟨rfl, i.pk []⟩)
   refine gF l (KC (wR 3 [(0, .slice c d.length f), (1, iv g), (5, iv (w64 (b + 1)))] h (WN ?_)))
   cases hm
   exact N_loop fun a ha => ⟨_, rfl, i.pk [], ha.s⟩
  refine gF k (XA ?_)
  obtain rfl := HS hm
  obtain rfl := o _ rfl
  exact N_meet fun a ha => ⟨_, rfl, i.pk [], ha.s⟩
 intro C A ⟨q, hout_, u, x⟩
 refine N_use x ?_
 subst hout_
 have hm := n; simp only [Sum.elim_inl] at hm
 refine NF (wR 1 [(4, iv (-1))] A (NC ?_))
 cases hm
 exact RA [iv (-1)] (⟨rfl, u.pk []⟩)
theorem c_s_l9Offer (w : World) (a : Queue) (n : Option Addr) (m : Nat) (ab : rdS encSlot w a.Slots n m) (t : Option Addr) (q : Nat) (ac : rdS encWaiter w a.Waiting t q) (c : Int) (l : Int) {r : Queue} (hm : M.s_l9Offer a c l = some r) :
  Calls Tryz.prog 172 #[.agg #[.slice n a.Slots.length m, .slice t a.Waiting.length q], iv c, iv l] w fun e w' => ∃ (av : Option Addr) (ar : Nat) (ay : Seg), ∃ (aw : Option Addr) (au : Nat) (az : Seg), e = .returned (.agg #[.slice av r.Slots.length ar, .slice aw r.Waiting.length au]) ∧ ownS encSlot r.Slots av ar ay ∧ ownS encWaiter r.Waiting aw au az ∧ Mem [] w w' [ay, az] := by
 unfold M.s_l9Offer at hm
 refine cE Tryz.func172 ?_
 have M0 := Mem.refl [] w
 refine QA (wN (.cells ⟨[.slice n a.Slots.length m, .slice t a.Waiting.length q]⟩ 85 (0, 0)) M0 fun d cf a9 => wN (.cells ⟨[.slice none 0 0, .slice none 0 0]⟩ 85 (0, 0)) a9 fun u ad ae => NB (MW 1 (wV (.slice n a.Slots.length m) ad (eL false 1 0 (ae.blk 0 rfl)) (wR 1 [(1, iv c), (2, iv l), (3, pB d 0), (6, pB u 0), (10, .slice n a.Slots.length m), (11, iv c)] ad ?_))))
 obtain ⟨bx, bq, hm⟩ := gx_bind hm
 refine WD (c_s_l8Find ad a.Slots n m (ab.mem0 ae) c bq) ae fun D U => wR 1 [(1, iv c), (2, iv l), (3, pB d 0), (6, pB u 0), (13, .bool (decide (bx ≥ 0)))] D (NO ?_)
 rcases gx_bif hm with ⟨ag, hm⟩ | ⟨ag, hm⟩
 ·refine gT ag (QA (MW 1 (wV (.slice n a.Slots.length m) D (eL false 1 0 (U.blk 0 rfl)) (wR 2 [(3, pB d 0), (6, pB u 0), (16, .slice n a.Slots.length m), (17, iv c), (18, iv l)] D ?_))))
  obtain ⟨Y, br, hm⟩ := gx_bind hm
  refine WC ((c_s_l8Put D a.Slots n m (ab.mem0 U) c l br).mono ?_)
  rintro e_ Z ⟨X, W, ce, rfl, bj, a3⟩
  have aa := U.call a3
  refine ⟨_, rfl, ?_⟩
  refine MW 5 (NA (MW 2 (wV (.slice t a.Waiting.length q) Z (eL false 1 1 (aa.blk 0 rfl)) (wR 1 [(6, pB u 0), (25, .agg #[.slice X Y.1.length W, .slice t a.Waiting.length q])] Z ?_))))
  obtain ⟨z, bs, hm⟩ := gx_bind hm
  refine WC ((c_s_l9Settle Z (⟨Y.1, a.Waiting⟩ : Queue) X W (bj.r aa 2) t q (ac.mem0 aa) bs).mono ?_)
  rintro e_ cg ⟨N, G, bz, O, H, b0, rfl, bk, bl, a4⟩
  have ba := aa.call a4
  refine ⟨_, rfl, ?_⟩
  refine wS true 2 0 (.agg #[.slice N z.Slots.length G, .slice O z.Waiting.length H]) 1 [.slice N z.Slots.length G, .slice O z.Waiting.length H] ba rfl fun ch al => ND ?_
  obtain rfl := HS hm
  exact N_ret [.agg #[.slice N z.Slots.length G, .slice O z.Waiting.length H]] (RX true 2 0 (al.blk 1 rfl) RVs_nil) (⟨N, G, bz, O, H, b0, rfl, bk, bl, al.pk [3, 4]⟩)
 refine gF ag (KB (MW 1 (wV (.slice t a.Waiting.length q) D (eL false 1 1 (U.blk 0 rfl)) (wR 1 [(1, iv c), (2, iv l), (3, pB d 0), (6, pB u 0), (28, .slice t a.Waiting.length q), (29, iv c)] D ?_))))
 obtain ⟨ax, bt, hm⟩ := gx_bind hm
 refine WD (c_s_l9Has D a.Waiting t q (ac.mem0 U) c bt) U fun aj V => wR 1 [(1, iv c), (2, iv l), (3, pB d 0), (6, pB u 0), (31, .bool (decide (ax ≥ 0)))] aj (NO ?_)
 rcases gx_bif hm with ⟨ah, hm⟩ | ⟨ah, hm⟩
 ·refine gT ah (QA (wV (.agg #[.slice n a.Slots.length m, .slice t a.Waiting.length q]) aj (eL true 2 0 (V.blk 0 rfl)) ?_))
  obtain ⟨A, bu, hm⟩ := gx_bind hm
  refine WC ((c_s_l9Settle aj a n m (ab.mem0 V) t q (ac.mem0 V) bu).mono ?_)
  rintro e_ ci ⟨P, I, b1, Q, J, b2, rfl, bm, bn, a6⟩
  have bb := V.call a6
  refine ⟨_, rfl, ?_⟩
  refine wS true 2 0 (.agg #[.slice P A.Slots.length I, .slice Q A.Waiting.length J]) 1 [.slice P A.Slots.length I, .slice Q A.Waiting.length J] bb rfl fun cj am => ND ?_
  obtain rfl := HS hm
  exact N_ret [.agg #[.slice P A.Slots.length I, .slice Q A.Waiting.length J]] (RX true 2 0 (am.blk 1 rfl) RVs_nil) (⟨P, I, b1, Q, J, b2, rfl, bm, bn, am.pk [2, 3]⟩)
 refine gF ah (GK (TN (GS ?_)))
 obtain ⟨F, bv, hm⟩ := gx_bind hm
 refine G_sub [(1, iv c), (2, iv l), (3, pB d 0), (6, pB u 0), (31, .bool (decide (ax ≥ 0)))] (by kernel_rfl) (G_dagL 8 [[], [0], [], [2], [], [], [4, 5], [3, 6]] [[], [], [], [], [], [], [], []] [[], [], [], [], [], [], [], []] [[], [], [], [], [], [], [], []] [[], [], [], [], [], [], [], []] [[], [], [], [], [], [], [], []] (fun _ => []) (fun i => ([fun f v s => v = (pB d 0 : Value) ∧ s = [], fun f v s => v = (.slice n a.Slots.length m : Value) ∧ s = [], fun f v s => v = (pB d 1 : Value) ∧ s = [], fun f v s => v = (.slice t a.Waiting.length q : Value) ∧ s = [], fun f v s => v = (iv c : Value) ∧ s = [], fun f v s => v = (iv l : Value) ∧ s = [], fun f v s => v = (.agg #[iv c, iv l] : Value) ∧ s = [], fun f v s => ∃ (y : Option Addr) (x : Nat), v = (.slice y F.length x : Value) ∧ ownS encWaiter F y x s] : List ((Nat → Value) → Value → Seg → Prop)).getD i (fun _ _ _ => False)) (fun j f v => ∃ s, (fun i => ([fun f v s => v = (pB d 0 : Value) ∧ s = [], fun f v s => v = (.slice n a.Slots.length m : Value) ∧ s = [], fun f v s => v = (pB d 1 : Value) ∧ s = [], fun f v s => v = (.slice t a.Waiting.length q : Value) ∧ s = [], fun f v s => v = (iv c : Value) ∧ s = [], fun f v s => v = (iv l : Value) ∧ s = [], fun f v s => v = (.agg #[iv c, iv l] : Value) ∧ s = [], fun f v s => ∃ (y : Option Addr) (x : Nat), v = (.slice y F.length x : Value) ∧ ownS encWaiter F y x s] : List ((Nat → Value) → Value → Seg → Prop)).getD i (fun _ _ _ => False)) j f v s) [] [1, 7] [7] (fun _ _ _ s h => ⟨s, h⟩) (by kernel_rfl) (by kernel_rfl) (V.preNil 8) (by kernel_rfl) (by kernel_rfl) (by kernel_rfl) (by kernel_rfl) (allOb_cons ?_ (allOb_cons ?_ (allOb_cons ?_ (allOb_cons ?_ (allOb_cons ?_ (allOb_cons ?_ (allOb_cons ?_ (allOb_cons ?_ allOb_nil)))))))) ?_)
 ·intro C E
  intro R b6 bc
  exact MW 1 (WN (oE (pB d 0) [] ⟨by kernel_rfl, rfl⟩ bc))
 ·intro C E
  intro v0_ hb0_
  obtain ⟨rfl, _⟩ := hb0_
  intro R b7 an
  exact wV (.slice n a.Slots.length m) b7 (eL false 1 0 (an.blk 0 rfl)) (WN (oE (.slice n a.Slots.length m) [] ⟨by kernel_rfl, rfl⟩ an))
 ·intro C E
  intro R b8 bd
  exact MW 1 (WN (oE (pB d 1) [] ⟨by kernel_rfl, rfl⟩ bd))
 ·intro C E
  intro v2_ hb2_
  obtain ⟨rfl, _⟩ := hb2_
  intro R b9 ao
  exact wV (.slice t a.Waiting.length q) b9 (eL false 1 1 (ao.blk 0 rfl)) (WN (oE (.slice t a.Waiting.length q) [] ⟨by kernel_rfl, rfl⟩ ao))
 ·intro C E
  intro R ca be
  exact MW 1 (WN (oE (iv c) [] ⟨by kernel_rfl, rfl⟩ be))
 ·intro C E
  intro R cb bf
  exact MW 1 (WN (oE (iv l) [] ⟨by kernel_rfl, rfl⟩ bf))
 ·intro C E
  intro v4_ hb4_
  obtain ⟨rfl, _⟩ := hb4_
  intro v5_ hb5_
  obtain ⟨rfl, _⟩ := hb5_
  intro R cc bg
  exact MW 1 (WN (oE (.agg #[iv c, iv l]) [] ⟨by kernel_rfl, rfl⟩ bg))
 ·intro C E
  intro v3_ hb3_
  obtain ⟨rfl, _⟩ := hb3_
  intro v6_ hb6_
  obtain ⟨rfl, _⟩ := hb6_
  intro R cd ap
  refine WC ((c_s_l9Wait cd a.Waiting t q (ac.mem0 ap) (⟨c, l⟩ : Waiter) bv).mono ?_)
  rintro e_ ck ⟨y, x, b3, rfl, ai, a7⟩
  refine ⟨_, rfl, ?_⟩
  exact WN (oE (.slice y F.length x) b3 ⟨y, x, rfl, ai⟩ (Mem.callMid ap a7))
 intro C E
 intro v1_ hb1_
 obtain ⟨rfl, _⟩ := hb1_
 intro v7_ hb7_
 obtain ⟨y, x, rfl, ai⟩ := hb7_
 intro ak bh
 have af : Mem [] w ak [[(d, .cells ⟨[.slice n a.Slots.length m, .slice t a.Waiting.length q]⟩ 85 (0, 0))], [(u, .cells ⟨[.slice none 0 0, .slice none 0 0]⟩ 85 (0, 0))], (C 7)] := bh
 refine wR 1 [(6, pB u 0), (42, .agg #[.slice n a.Slots.length m, .slice y F.length x])] ak ?_
 obtain ⟨B, bw, hm⟩ := gx_bind hm
 refine WC ((c_s_l9Settle ak (⟨a.Slots, F⟩ : Queue) n m (ab.mem0 af) y x (ai.r af 2) bw).mono ?_)
 rintro e_ cl ⟨S, K, b4, T, L, b5, rfl, bo, bp, a8⟩
 have bi := af.call a8
 refine ⟨_, rfl, ?_⟩
 refine wS true 2 0 (.agg #[.slice S B.Slots.length K, .slice T B.Waiting.length L]) 1 [.slice S B.Slots.length K, .slice T B.Waiting.length L] bi rfl fun cm aq => NC ?_
 obtain rfl := HS hm
 exact N_ret [.agg #[.slice S B.Slots.length K, .slice T B.Waiting.length L]] (RX true 2 0 (aq.blk 1 rfl) RVs_nil) (⟨S, K, b4, T, L, b5, rfl, bo, bp, aq.pk [3, 4]⟩)
theorem c_s_l10Raise (w : World) (a : Interface) (B : Option Addr) (y : Nat) (ar : rdS Gx.encI w a.Stack B y) (C : Option Addr) (z : Nat) (au : rdS encSlot w a.Queue.Slots C z) (D : Option Addr) (A : Nat) (av : rdS encWaiter w a.Queue.Waiting D A) (I : Int) (J : Int) {r : Interface} (hm : M.s_l10Raise a I J = some r) :
  Calls Tryz.prog 132 #[.agg #[iv a.Mask, .slice B a.Stack.length y, .slice C a.Queue.Slots.length z, .slice D a.Queue.Waiting.length A], iv I, iv J] w fun e w' => ∃ (ab : Option Addr) (Y : Nat) (ae : Seg), ∃ (ac : Option Addr) (Z : Nat) (af : Seg), ∃ (ad : Option Addr) (aa : Nat) (ag : Seg), e = .returned (.agg #[iv r.Mask, .slice ab r.Stack.length Y, .slice ac r.Queue.Slots.length Z, .slice ad r.Queue.Waiting.length aa]) ∧ ownS Gx.encI r.Stack ab Y ae ∧ ownS encSlot r.Queue.Slots ac Z af ∧ ownS encWaiter r.Queue.Waiting ad aa ag ∧ Mem [] w w' [ae, af, ag] := by
 unfold M.s_l10Raise at hm
 refine cE Tryz.func132 ?_
 have M0 := Mem.refl [] w
 refine QA (wN (.cells ⟨[iv a.Mask, .slice B a.Stack.length y, .slice C a.Queue.Slots.length z, .slice D a.Queue.Waiting.length A]⟩ 87 (0, 0)) M0 fun u bb aj => wN (.cells ⟨[iv 0, .slice none 0 0, .slice none 0 0, .slice none 0 0]⟩ 87 (0, 0)) aj fun K bc ak => NE ?_)
 obtain ⟨E, aw, hm⟩ := gx_bind hm
 obtain ⟨c, ax, hm⟩ := gx_bind hm
 refine G_sub [(0, .agg #[iv a.Mask, .slice B a.Stack.length y, .slice C a.Queue.Slots.length z, .slice D a.Queue.Waiting.length A]), (1, iv I), (2, iv J), (3, pB u 0), (6, pB K 0)] (by kernel_rfl) (G_dagL 10 [[], [0], [], [2], [3], [], [5], [], [], [6, 7, 8]] [[], [], [], [], [], [], [], [], [], []] [[], [], [], [], [], [], [], [], [], []] [[], [], [], [], [], [], [], [], [], []] [[], [], [], [], [], [], [], [], [], []] [[], [], [], [], [], [], [], [], [], []] (fun _ => []) (fun i => ([fun f v s => v = (pB u 0 : Value) ∧ s = [], fun f v s => v = (iv a.Mask : Value) ∧ s = [], fun f v s => v = (pB u 1 : Value) ∧ s = [], fun f v s => v = (.slice B a.Stack.length y : Value) ∧ s = [], fun f v s => ∃ (n : Option Addr) (d : Nat), v = (.slice n E.length d : Value) ∧ ownS Gx.encI E n d s, fun f v s => v = (pB u 2 : Value) ∧ s = [], fun f v s => v = (.agg #[.slice C a.Queue.Slots.length z, .slice D a.Queue.Waiting.length A] : Value) ∧ s = [], fun f v s => v = (iv I : Value) ∧ s = [], fun f v s => v = (iv J : Value) ∧ s = [], fun f v s => ∃ (q : Option Addr) (l : Nat) (F : Seg), ∃ (t : Option Addr) (m : Nat) (G : Seg), v = (.agg #[.slice q c.Slots.length l, .slice t c.Waiting.length m] : Value) ∧ s = (F ++ G) ∧ ownS encSlot c.Slots q l F ∧ ownS encWaiter c.Waiting t m G] : List ((Nat → Value) → Value → Seg → Prop)).getD i (fun _ _ _ => False)) (fun j f v => ∃ s, (fun i => ([fun f v s => v = (pB u 0 : Value) ∧ s = [], fun f v s => v = (iv a.Mask : Value) ∧ s = [], fun f v s => v = (pB u 1 : Value) ∧ s = [], fun f v s => v = (.slice B a.Stack.length y : Value) ∧ s = [], fun f v s => ∃ (n : Option Addr) (d : Nat), v = (.slice n E.length d : Value) ∧ ownS Gx.encI E n d s, fun f v s => v = (pB u 2 : Value) ∧ s = [], fun f v s => v = (.agg #[.slice C a.Queue.Slots.length z, .slice D a.Queue.Waiting.length A] : Value) ∧ s = [], fun f v s => v = (iv I : Value) ∧ s = [], fun f v s => v = (iv J : Value) ∧ s = [], fun f v s => ∃ (q : Option Addr) (l : Nat) (F : Seg), ∃ (t : Option Addr) (m : Nat) (G : Seg), v = (.agg #[.slice q c.Slots.length l, .slice t c.Waiting.length m] : Value) ∧ s = (F ++ G) ∧ ownS encSlot c.Slots q l F ∧ ownS encWaiter c.Waiting t m G] : List ((Nat → Value) → Value → Seg → Prop)).getD i (fun _ _ _ => False)) j f v s) [] [1, 4, 9] [4, 9] (fun _ _ _ s h => ⟨s, h⟩) (by kernel_rfl) (by kernel_rfl) (ak.preNil 10) (by kernel_rfl) (by kernel_rfl) (by kernel_rfl) (by kernel_rfl) (allOb_cons ?_ (allOb_cons ?_ (allOb_cons ?_ (allOb_cons ?_ (allOb_cons ?_ (allOb_cons ?_ (allOb_cons ?_ (allOb_cons ?_ (allOb_cons ?_ (allOb_cons ?_ allOb_nil)))))))))) ?_)
 ·intro x H
  intro R az al
  exact MW 1 (WN (oE (pB u 0) [] ⟨by kernel_rfl, rfl⟩ al))
 ·intro x H
  intro v0_ hb0_
  obtain ⟨rfl, _⟩ := hb0_
  intro R a0 T
  exact wV (iv a.Mask) a0 (eL false 1 0 (T.blk 0 rfl)) (WN (oE (iv a.Mask) [] ⟨by kernel_rfl, rfl⟩ T))
 ·intro x H
  intro R a3 am
  exact MW 1 (WN (oE (pB u 1) [] ⟨by kernel_rfl, rfl⟩ am))
 ·intro x H
  intro v2_ hb2_
  obtain ⟨rfl, _⟩ := hb2_
  intro R a4 U
  exact wV (.slice B a.Stack.length y) a4 (eL false 1 1 (U.blk 0 rfl)) (WN (oE (.slice B a.Stack.length y) [] ⟨by kernel_rfl, rfl⟩ U))
 ·intro x H
  intro v3_ hb3_
  obtain ⟨rfl, _⟩ := hb3_
  intro R a5 V
  refine WC ((c_s_l1Own a5 a.Stack B y (ar.mem0 V) aw).mono ?_)
  rintro e_ bd ⟨n, d, ay, rfl, O, ah⟩
  refine ⟨_, rfl, ?_⟩
  exact WN (oE (.slice n E.length d) ay ⟨n, d, rfl, O⟩ (Mem.callMid V ah))
 ·intro x H
  intro R a6 an
  exact MW 1 (WN (oE (pB u 2) [] ⟨by kernel_rfl, rfl⟩ an))
 ·intro x H
  intro v5_ hb5_
  obtain ⟨rfl, _⟩ := hb5_
  intro R a7 W
  exact wV (.agg #[.slice C a.Queue.Slots.length z, .slice D a.Queue.Waiting.length A]) a7 (eL true 2 2 (W.blk 0 rfl)) (WN (oE (.agg #[.slice C a.Queue.Slots.length z, .slice D a.Queue.Waiting.length A]) [] ⟨by kernel_rfl, rfl⟩ W))
 ·intro x H
  intro R a8 ao
  exact MW 1 (WN (oE (iv I) [] ⟨by kernel_rfl, rfl⟩ ao))
 ·intro x H
  intro R a9 ap
  exact MW 1 (WN (oE (iv J) [] ⟨by kernel_rfl, rfl⟩ ap))
 ·intro x H
  intro v6_ hb6_
  obtain ⟨rfl, _⟩ := hb6_
  intro v7_ hb7_
  obtain ⟨rfl, _⟩ := hb7_
  intro v8_ hb8_
  obtain ⟨rfl, _⟩ := hb8_
  intro R ba N
  refine WC ((c_s_l9Offer ba a.Queue C z (au.mem0 N) D A (av.mem0 N) I J ax).mono ?_)
  rintro e_ be ⟨q, l, F, t, m, G, rfl, P, Q, ai⟩
  refine ⟨_, rfl, ?_⟩
  exact WN (oE (.agg #[.slice q c.Slots.length l, .slice t c.Waiting.length m]) (F ++ G) ⟨q, l, F, t, m, G, rfl, rfl, P, Q⟩ (Mem.callMid N (ai.permF (by simp))))
 intro x H
 intro v1_ hb1_
 obtain ⟨rfl, _⟩ := hb1_
 intro v4_ hb4_
 obtain ⟨n, d, rfl, O⟩ := hb4_
 intro v9_ hb9_
 obtain ⟨q, l, F, t, m, G, rfl, hs9_, P, Q⟩ := hb9_
 intro S aq
 have L : Mem [] w S [[(u, .cells ⟨[iv a.Mask, .slice B a.Stack.length y, .slice C a.Queue.Slots.length z, .slice D a.Queue.Waiting.length A]⟩ 87 (0, 0))], [(K, .cells ⟨[iv 0, .slice none 0 0, .slice none 0 0, .slice none 0 0]⟩ 87 (0, 0))], (x 4), (x 9)] := aq
 rw [hs9_] at L
 replace L : Mem [] w S [[(u, .cells ⟨[iv a.Mask, .slice B a.Stack.length y, .slice C a.Queue.Slots.length z, .slice D a.Queue.Waiting.length A]⟩ 87 (0, 0))], [(K, .cells ⟨[iv 0, .slice none 0 0, .slice none 0 0, .slice none 0 0]⟩ 87 (0, 0))], (x 4), F, G] := L.permF (by simp)
 refine wR 1 [(6, pB K 0), (17, .agg #[iv a.Mask, .slice n E.length d, .slice q c.Slots.length l, .slice t c.Waiting.length m])] S (wS true 4 0 (.agg #[iv a.Mask, .slice n E.length d, .slice q c.Slots.length l, .slice t c.Waiting.length m]) 1 [iv a.Mask, .slice n E.length d, .slice q c.Slots.length l, .slice t c.Waiting.length m] L rfl fun bf X => NC ?_)
 obtain rfl := HS hm
 exact N_ret [.agg #[iv a.Mask, .slice n E.length d, .slice q c.Slots.length l, .slice t c.Waiting.length m]] (RX true 4 0 (X.blk 1 rfl) RVs_nil) (⟨n, d, (x 4), q, l, F, t, m, G, rfl, O, P, Q, X.pk [2, 3, 4]⟩)
end Go.Proofs.YtllhajkgkghhdaaGreat
set_option linter.unusedVariables false
set_option maxRecDepth 100000
set_option maxHeartbeats 4000000
namespace Go.Proofs.YtllhajkgkghhdaaGreat
open Go.Gx
theorem c_s_l21Sync (w : World) (d : Machine) (A : Option Addr) (F : Nat) (ak : rdS encRoute w d.Routes A F) (O : Option Addr) (Q : Nat) (bf : rdS Gx.encB w d.Enabled O Q) (P : Option Addr) (S : Nat) (bg : rdS Gx.encB w d.Raised P S) (L : Option Addr) (T : Nat) (b9 : rdD deepInterface w d.Cpus L T) {r : Machine} (hm : M.s_l21Sync d = some r) :
  Calls Tryz.prog 76 #[.agg #[.slice A d.Routes.length F, .slice O d.Enabled.length Q, .slice P d.Raised.length S, .slice L d.Cpus.length T]] w fun e w' => ∃ (ce : Option Addr) (b5 : Nat) (ci : Seg), ∃ (cf : Option Addr) (b6 : Nat) (cj : Seg), ∃ (cg : Option Addr) (b7 : Nat) (ck : Seg), ∃ (ch : Option Addr) (b8 : Nat) (cl : Seg) (cm : Seg), e = .returned (.agg #[.slice ce r.Routes.length b5, .slice cf r.Enabled.length b6, .slice cg r.Raised.length b7, .slice ch r.Cpus.length b8]) ∧ ownS encRoute r.Routes ce b5 ci ∧ ownS Gx.encB r.Enabled cf b6 cj ∧ ownS Gx.encB r.Raised cg b7 ck ∧ ownD deepInterface r.Cpus ch b8 cl cm ∧ Mem [] w w' [ci, cj, ck, cl, cm] := by
 unfold M.s_l21Sync at hm
 refine cE Tryz.func76 ?_
 have M0 := Mem.refl [] w
 refine QA (wN (.cells ⟨[.slice A d.Routes.length F, .slice O d.Enabled.length Q, .slice P d.Raised.length S, .slice L d.Cpus.length T]⟩ 32 (0, 0)) M0 fun u fc cu => wN (.cells ⟨[.slice none 0 0, .slice none 0 0, .slice none 0 0, .slice none 0 0]⟩ 32 (0, 0)) cu fun y cn am => NA (wV (.agg #[.slice A d.Routes.length F, .slice O d.Enabled.length Q, .slice P d.Raised.length S, .slice L d.Cpus.length T]) cn (eL true 4 0 (am.blk 0 rfl)) ?_))
 obtain ⟨t, d4, hm⟩ := gx_bind hm
 refine WC ((c_s_l21Own cn d A F (ak.mem0 am) O Q (bf.mem0 am) P S (bg.mem0 am) L T (b9.mem0 am) d4).mono ?_)
 rintro e_ fd ⟨I, G, af, J, H, ag, B, D, ef, x, z, eg, eh, rfl, dp, dq, dr, ds, cq⟩
 have cv := am.call cq
 refine ⟨_, rfl, ?_⟩
 refine wN (.cells ⟨[.slice none 0 0, .slice none 0 0, .slice none 0 0, .slice none 0 0]⟩ 32 (0, 0)) cv fun n fe cw => wS true 4 0 (.agg #[.slice I t.Routes.length G, .slice J t.Enabled.length H, .slice B t.Raised.length D, .slice x t.Cpus.length z]) 7 [.slice I t.Routes.length G, .slice J t.Enabled.length H, .slice B t.Raised.length D, .slice x t.Cpus.length z] cw rfl fun ei cx => NB (wR 1 [(1, pB u 0), (2, pB y 0), (3, pB n 0), (4, iv 0)] ei (NO ?_))
 obtain ⟨N, d8, dn⟩ := gx_bind hm
 refine G_meet (fun a w' => ∃ (a8 : Seg), ∃ (a9 : Seg), ∃ (ba : Seg), ownS Gx.encB N.1 B D a8 ∧ ownD deepInterface N.2 x z a9 ba ∧ Mem [] w w' [[(y, .cells ⟨[.slice none 0 0, .slice none 0 0, .slice none 0 0, .slice none 0 0]⟩ 32 (0, 0))], af, ag, [(n, .cells ⟨[.slice I t.Routes.length G, .slice J t.Enabled.length H, .slice B N.1.length D, .slice x N.2.length z]⟩ 32 (0, 0))], a8, a9, ba] ∧ Sat Tryz.f76.ntmps [(2, pB y 0), (3, pB n 0)] a) ?_ ?_
 ·refine GB (G_while (σ := Int × List Bool × List Interface) (ρ := List Bool × List Interface) (fun c a w' => ∃ (aq : Seg), ∃ (ai : Seg), ∃ (aj : Seg), ownS Gx.encB c.2.1 B D aq ∧ ownD deepInterface c.2.2 x z ai aj ∧ Mem [] w w' [[(u, .cells ⟨[.slice A d.Routes.length F, .slice O d.Enabled.length Q, .slice P d.Raised.length S, .slice L d.Cpus.length T]⟩ 32 (0, 0))], [(y, .cells ⟨[.slice none 0 0, .slice none 0 0, .slice none 0 0, .slice none 0 0]⟩ 32 (0, 0))], af, ag, [(n, .cells ⟨[.slice I t.Routes.length G, .slice J t.Enabled.length H, .slice B c.2.1.length D, .slice x c.2.2.length z]⟩ 32 (0, 0))], aq, ai, aj] ∧ Sat Tryz.f76.ntmps [(1, pB u 0), (2, pB y 0), (3, pB n 0), (4, iv c.1)] a) d8 (fun a ha => ⟨ef, eg, eh, dr, ds, cx.pk [0, 1, 2, 3, 7, 4, 5, 6], ha.s⟩) ?_)
  clear hm
  intro c fh hm d2 e6 C ⟨aq, ai, aj, a5, bl, K, dg⟩
  refine G_use dg (QB (wR 2 [(1, pB u 0), (2, pB y 0), (3, pB n 0), (4, iv c.1), (9, .bool (decide (c.1 < 8)))] C (NO ?_)))
  rcases gx_bif hm with ⟨bh, hm⟩ | ⟨bh, hm⟩
  ·refine gT bh (KD (MW 1 (wV (.slice A d.Routes.length F) C (eL false 1 0 (K.blk 0 rfl)) (wR 1 [(1, pB u 0), (2, pB y 0), (3, pB n 0), (4, iv c.1), (13, .slice A d.Routes.length F), (14, iv c.1)] C ?_))))
   obtain ⟨m, bq, hm⟩ := gx_bind hm
   refine wV (elemP A (c.1.toNat * 2)) C (eI (ak.mem0 K) rfl bq) (wV (elemP A (c.1.toNat * 2 + 1)) C (eF 1 (c.1.toNat * 2) 1 (ak.mem0 K) bq) (wV (iv m.Target) C (eE false 1 1 (c.1.toNat * 2 + 1) (ak.mem0 K) bq) (wR 1 [(1, pB u 0), (2, pB y 0), (3, pB n 0), (4, iv c.1), (5, iv m.Target)] C (NE ?_))))
   obtain ⟨ec, dv, dl⟩ := gx_bind hm
   refine G_meet (fun a w' => Mem [] w w' [[(u, .cells ⟨[.slice A d.Routes.length F, .slice O d.Enabled.length Q, .slice P d.Raised.length S, .slice L d.Cpus.length T]⟩ 32 (0, 0))], [(y, .cells ⟨[.slice none 0 0, .slice none 0 0, .slice none 0 0, .slice none 0 0]⟩ 32 (0, 0))], af, ag, [(n, .cells ⟨[.slice I t.Routes.length G, .slice J t.Enabled.length H, .slice B c.2.1.length D, .slice x c.2.2.length z]⟩ 32 (0, 0))], aq, ai, aj] ∧ Sat Tryz.f76.ntmps [(1, pB u 0), (2, pB y 0), (3, pB n 0), (4, iv c.1), (5, iv m.Target), (40, .bool ec)] a) ?_ ?_
   ·have hm := dv
    refine GR (MW 1 (wV (.slice O d.Enabled.length Q) C (eL false 1 1 (K.blk 0 rfl)) (wR 1 [(1, pB u 0), (2, pB y 0), (3, pB n 0), (4, iv c.1), (5, iv m.Target), (19, .slice O d.Enabled.length Q), (20, iv c.1)] C ?_)))
    obtain ⟨co, ca, hm⟩ := gx_bind hm
    refine wV (elemP O (c.1.toNat * 1)) C (eI (bf.mem0 K) rfl ca) (wV (.bool co) C (eE false 1 0 (c.1.toNat * 1) (bf.mem0 K) ca) (wR 1 [(1, pB u 0), (2, pB y 0), (3, pB n 0), (4, iv c.1), (5, iv m.Target), (23, .bool co)] C ?_))
    rcases gx_bif hm with ⟨bi, hm⟩ | ⟨bi, hm⟩
    ·refine wK 23 true bi (MW 1 (wV (.slice P d.Raised.length S) C (eL false 1 2 (K.blk 0 rfl)) (wR 1 [(1, pB u 0), (2, pB y 0), (3, pB n 0), (4, iv c.1), (5, iv m.Target), (23, .bool true), (25, .slice P d.Raised.length S), (26, iv c.1)] C ?_)))
     obtain ⟨cp, cb, hm⟩ := gx_bind hm
     refine wV (elemP P (c.1.toNat * 1)) C (eI (bg.mem0 K) rfl cb) (wV (.bool cp) C (eE false 1 0 (c.1.toNat * 1) (bg.mem0 K) cb) (wR 2 [(1, pB u 0), (2, pB y 0), (3, pB n 0), (4, iv c.1), (5, iv m.Target), (30, .bool cp)] C ?_))
     rcases gx_bif hm with ⟨bj, hm⟩ | ⟨bj, hm⟩
     ·refine wK 30 true bj (MW 1 (wV (.slice L d.Cpus.length T) C (eL false 1 3 (K.blk 0 rfl)) (wR 1 [(1, pB u 0), (2, pB y 0), (3, pB n 0), (4, iv c.1), (5, iv m.Target), (30, .bool true), (32, .slice L d.Cpus.length T), (33, iv m.Target)] C ?_)))
      obtain ⟨ax, d9, hm⟩ := gx_bind hm
      obtain ⟨fi, cd, bp, dk⟩ := id b9
      obtain ⟨ah, a0⟩ := gxIdx_fst cd d9
      refine wV (elemP L (m.Target.toNat * 4)) C (eI (bp.mem0 K) (len_fst cd) a0) (wV (elemP L (m.Target.toNat * 4 + 1)) C (eF 1 (m.Target.toNat * 4) 1 (bp.mem0 K) a0) (wV (.slice ((ah 0).1) ax.Stack.length ((ah 0).2)) C (eE false 1 1 (m.Target.toNat * 4 + 1) (bp.mem0 K) a0) (wR 1 [(1, pB u 0), (2, pB y 0), (3, pB n 0), (4, iv c.1), (5, iv m.Target), (30, .bool true), (36, .slice ((ah 0).1) ax.Stack.length ((ah 0).2)), (37, iv c.1)] C ?_)))
      obtain ⟨ed, d5, hm⟩ := gx_bind hm
      refine WD (c_s_l1Has C ax.Stack ((ah 0).1) ((ah 0).2) ((dk.mem0 K).at_ a0 0 ⟨Int, Gx.encI, ax.Stack, (ah 0).1, (ah 0).2⟩ (by kernel_rfl)) c.1 d5) K fun ej cy => wR 2 [(1, pB u 0), (2, pB y 0), (3, pB n 0), (4, iv c.1), (5, iv m.Target), (40, .bool (!ed))] ej (WN ?_)
      obtain rfl := HS hm
      exact N_meet fun a ha => ⟨cy.pk [0, 1, 2, 3, 4, 5, 6, 7], ha.s⟩
     refine wK 30 false bj (wR 10 [(1, pB u 0), (2, pB y 0), (3, pB n 0), (4, iv c.1), (5, iv m.Target), (40, .bool false)] C (WN ?_))
     obtain rfl := HS hm
     exact N_meet fun a ha => ⟨K.pk [0, 1, 2, 3, 4, 5, 6, 7], ha.s⟩
    refine wK 23 false bi (wR 17 [(1, pB u 0), (2, pB y 0), (3, pB n 0), (4, iv c.1), (5, iv m.Target), (40, .bool false)] C (WN ?_))
    obtain rfl := HS hm
    exact N_meet fun a ha => ⟨K.pk [0, 1, 2, 3, 4, 5, 6, 7], ha.s⟩
   intro e7 be ⟨ay, dh⟩
   refine N_use dh ?_
   have hm := dl
   refine TN ?_
   obtain ⟨a7, dw, dm⟩ := gx_bind hm
   refine G_meet (fun a w' => ∃ (bb : Seg), ∃ (bc : Seg), ∃ (bd : Seg), ownS Gx.encB a7.1 B D bb ∧ ownD deepInterface a7.2 x z bc bd ∧ Mem [] w w' [[(u, .cells ⟨[.slice A d.Routes.length F, .slice O d.Enabled.length Q, .slice P d.Raised.length S, .slice L d.Cpus.length T]⟩ 32 (0, 0))], [(y, .cells ⟨[.slice none 0 0, .slice none 0 0, .slice none 0 0, .slice none 0 0]⟩ 32 (0, 0))], af, ag, [(n, .cells ⟨[.slice I t.Routes.length G, .slice J t.Enabled.length H, .slice B a7.1.length D, .slice x a7.2.length z]⟩ 32 (0, 0))], bb, bc, bd] ∧ Sat Tryz.f76.ntmps [(1, pB u 0), (2, pB y 0), (3, pB n 0), (4, iv c.1)] a) ?_ ?_
   ·have hm := dw
    rcases gx_bif hm with ⟨bk, hm⟩ | ⟨bk, hm⟩
    ·refine gT bk (QA (MW 1 (wV (.slice B c.2.1.length D) be (eL false 1 2 (ay.blk 4 rfl)) (wR 1 [(1, pB u 0), (2, pB y 0), (3, pB n 0), (4, iv c.1), (5, iv m.Target), (42, .slice B c.2.1.length D), (43, iv c.1)] be ?_))))
     obtain ⟨e4, cc, hm⟩ := gx_bind hm
     refine wV (elemP B (c.1.toNat * 1)) be (eI (a5.r ay 5) rfl cc) (wE false 1 c.1.toNat 0 (c.1.toNat * 1) e4 false (.bool false) 5 ay a5 (gxIdx_spec cc).2 fun ek al dz cz => LX 42 B D c.2.1 c.1.toNat false ?_)
     have c0 : Mem [] w ek [[(u, .cells ⟨[.slice A d.Routes.length F, .slice O d.Enabled.length Q, .slice P d.Raised.length S, .slice L d.Cpus.length T]⟩ 32 (0, 0))], [(y, .cells ⟨[.slice none 0 0, .slice none 0 0, .slice none 0 0, .slice none 0 0]⟩ 32 (0, 0))], af, ag, [(n, .cells ⟨[.slice I t.Routes.length G, .slice J t.Enabled.length H, .slice B (c.2.1.set c.1.toNat false).length D, .slice x c.2.2.length z]⟩ 32 (0, 0))], al, ai, aj] := by rw [@List.length_set _ c.2.1 c.1.toNat false]; exact cz
     refine NO ?_
     obtain ⟨E, ea, hm⟩ := gx_bind hm
     obtain ⟨fj, an, a6, a4⟩ := id bl
     obtain ⟨q, av⟩ := gxIdx_fst an ea
     obtain ⟨ar, br, hm⟩ := gx_bind hm
     obtain ⟨l, d6, hm⟩ := gx_bind hm
     refine G_sub [(1, pB u 0), (2, pB y 0), (3, pB n 0), (4, iv c.1), (5, iv m.Target), (42, .slice B (c.2.1.set c.1.toNat false).length D), (43, iv c.1), (44, elemP B (c.1.toNat * 1))] (by kernel_rfl) (G_dagL 16 [[], [0], [], [], [3], [], [4, 5], [6], [], [], [9], [], [10, 11], [12], [13], [7, 8, 14]] [[], [], [], [], [], [], [], [], [], [], [], [], [], [], [], []] [[], [], [], [], [], [], [], [], [], [], [], [], [], [], [], []] [[], [], [], [], [], [], [], [], [], [], [], [], [], [], [], []] [[], [], [], [], [], [], [], [], [], [], [], [], [], [], [], []] [[], [], [], [], [], [], [], [], [], [], [], [], [], [], [], []] (fun _ => []) (fun i => ([fun f v s => v = (pB n 3 : Value) ∧ s = [], fun f v s => v = (.slice x c.2.2.length z : Value) ∧ s = [], fun f v s => v = (iv m.Target : Value) ∧ s = [], fun f v s => v = (pB n 3 : Value) ∧ s = [], fun f v s => v = (.slice x c.2.2.length z : Value) ∧ s = [], fun f v s => v = (iv m.Target : Value) ∧ s = [], fun f v s => v = (elemP x (m.Target.toNat * 4) : Value) ∧ s = [], fun f v s => v = (.agg #[iv E.Mask, .slice ((q 0).1) E.Stack.length ((q 0).2), .slice ((q 1).1) E.Queue.Slots.length ((q 1).2), .slice ((q 2).1) E.Queue.Waiting.length ((q 2).2)] : Value) ∧ s = [], fun f v s => v = (iv c.1 : Value) ∧ s = [], fun f v s => v = (pB u 0 : Value) ∧ s = [], fun f v s => v = (.slice A d.Routes.length F : Value) ∧ s = [], fun f v s => v = (iv c.1 : Value) ∧ s = [], fun f v s => v = (elemP A (c.1.toNat * 2) : Value) ∧ s = [], fun f v s => v = (elemP A (c.1.toNat * 2 + 0) : Value) ∧ s = [], fun f v s => v = (iv ar.Priority : Value) ∧ s = [], fun f v s => ∃ (ac : Option Addr) (Z : Nat) (W : Seg), ∃ (ad : Option Addr) (aa : Nat) (X : Seg), ∃ (ae : Option Addr) (ab : Nat) (Y : Seg), v = (.agg #[iv l.Mask, .slice ac l.Stack.length Z, .slice ad l.Queue.Slots.length aa, .slice ae l.Queue.Waiting.length ab] : Value) ∧ s = (W ++ (X ++ Y)) ∧ ownS Gx.encI l.Stack ac Z W ∧ ownS encSlot l.Queue.Slots ad aa X ∧ ownS encWaiter l.Queue.Waiting ae ab Y] : List ((Nat → Value) → Value → Seg → Prop)).getD i (fun _ _ _ => False)) (fun j f v => ∃ s, (fun i => ([fun f v s => v = (pB n 3 : Value) ∧ s = [], fun f v s => v = (.slice x c.2.2.length z : Value) ∧ s = [], fun f v s => v = (iv m.Target : Value) ∧ s = [], fun f v s => v = (pB n 3 : Value) ∧ s = [], fun f v s => v = (.slice x c.2.2.length z : Value) ∧ s = [], fun f v s => v = (iv m.Target : Value) ∧ s = [], fun f v s => v = (elemP x (m.Target.toNat * 4) : Value) ∧ s = [], fun f v s => v = (.agg #[iv E.Mask, .slice ((q 0).1) E.Stack.length ((q 0).2), .slice ((q 1).1) E.Queue.Slots.length ((q 1).2), .slice ((q 2).1) E.Queue.Waiting.length ((q 2).2)] : Value) ∧ s = [], fun f v s => v = (iv c.1 : Value) ∧ s = [], fun f v s => v = (pB u 0 : Value) ∧ s = [], fun f v s => v = (.slice A d.Routes.length F : Value) ∧ s = [], fun f v s => v = (iv c.1 : Value) ∧ s = [], fun f v s => v = (elemP A (c.1.toNat * 2) : Value) ∧ s = [], fun f v s => v = (elemP A (c.1.toNat * 2 + 0) : Value) ∧ s = [], fun f v s => v = (iv ar.Priority : Value) ∧ s = [], fun f v s => ∃ (ac : Option Addr) (Z : Nat) (W : Seg), ∃ (ad : Option Addr) (aa : Nat) (X : Seg), ∃ (ae : Option Addr) (ab : Nat) (Y : Seg), v = (.agg #[iv l.Mask, .slice ac l.Stack.length Z, .slice ad l.Queue.Slots.length aa, .slice ae l.Queue.Waiting.length ab] : Value) ∧ s = (W ++ (X ++ Y)) ∧ ownS Gx.encI l.Stack ac Z W ∧ ownS encSlot l.Queue.Slots ad aa X ∧ ownS encWaiter l.Queue.Waiting ae ab Y] : List ((Nat → Value) → Value → Seg → Prop)).getD i (fun _ _ _ => False)) j f v s) [] [1, 2, 15] [15] (fun _ _ _ s h => ⟨s, h⟩) (by kernel_rfl) (by kernel_rfl) (c0.preNil 16) (by kernel_rfl) (by kernel_rfl) (by kernel_rfl) (by kernel_rfl) (allOb_cons ?_ (allOb_cons ?_ (allOb_cons ?_ (allOb_cons ?_ (allOb_cons ?_ (allOb_cons ?_ (allOb_cons ?_ (allOb_cons ?_ (allOb_cons ?_ (allOb_cons ?_ (allOb_cons ?_ (allOb_cons ?_ (allOb_cons ?_ (allOb_cons ?_ (allOb_cons ?_ (allOb_cons ?_ allOb_nil)))))))))))))))) ?_)
     ·intro U V
      intro R el c1
      exact MW 1 (WN (oE (pB n 3) [] ⟨by kernel_rfl, rfl⟩ c1))
     ·intro U V
      intro v0_ hb0_
      obtain ⟨rfl, _⟩ := hb0_
      intro R em bu
      exact wV (.slice x c.2.2.length z) em (eL false 1 3 (bu.blk 4 rfl)) (WN (oE (.slice x c.2.2.length z) [] ⟨by kernel_rfl, rfl⟩ bu))
     ·intro U V
      intro R en c2
      exact MW 1 (WN (oE (iv m.Target) [] ⟨by kernel_rfl, rfl⟩ c2))
     ·intro U V
      intro R eo c3
      exact MW 1 (WN (oE (pB n 3) [] ⟨by kernel_rfl, rfl⟩ c3))
     ·intro U V
      intro v3_ hb3_
      obtain ⟨rfl, _⟩ := hb3_
      intro R ep bv
      exact wV (.slice x c.2.2.length z) ep (eL false 1 3 (bv.blk 4 rfl)) (WN (oE (.slice x c.2.2.length z) [] ⟨by kernel_rfl, rfl⟩ bv))
     ·intro U V
      intro R er c4
      exact MW 1 (WN (oE (iv m.Target) [] ⟨by kernel_rfl, rfl⟩ c4))
     ·intro U V
      intro v4_ hb4_
      obtain ⟨rfl, _⟩ := hb4_
      intro v5_ hb5_
      obtain ⟨rfl, _⟩ := hb5_
      intro R es bw
      exact wV (elemP x (m.Target.toNat * 4)) es (eI (a6.r bw 6) (len_fst an) av) (WN (oE (elemP x (m.Target.toNat * 4)) [] ⟨by kernel_rfl, rfl⟩ bw))
     ·intro U V
      intro v6_ hb6_
      obtain ⟨rfl, _⟩ := hb6_
      intro R et bx
      exact wV (.agg #[iv E.Mask, .slice ((q 0).1) E.Stack.length ((q 0).2), .slice ((q 1).1) E.Queue.Slots.length ((q 1).2), .slice ((q 2).1) E.Queue.Waiting.length ((q 2).2)]) et (eE true 4 0 (m.Target.toNat * 4) (a6.r bx 6) av) (WN (oE (.agg #[iv E.Mask, .slice ((q 0).1) E.Stack.length ((q 0).2), .slice ((q 1).1) E.Queue.Slots.length ((q 1).2), .slice ((q 2).1) E.Queue.Waiting.length ((q 2).2)]) [] ⟨by kernel_rfl, rfl⟩ bx))
     ·intro U V
      intro R eu c5
      exact MW 1 (WN (oE (iv c.1) [] ⟨by kernel_rfl, rfl⟩ c5))
     ·intro U V
      intro R ev c6
      exact MW 1 (WN (oE (pB u 0) [] ⟨by kernel_rfl, rfl⟩ c6))
     ·intro U V
      intro v9_ hb9_
      obtain ⟨rfl, _⟩ := hb9_
      intro R ew bz
      exact wV (.slice A d.Routes.length F) ew (eL false 1 0 (bz.blk 0 rfl)) (WN (oE (.slice A d.Routes.length F) [] ⟨by kernel_rfl, rfl⟩ bz))
     ·intro U V
      intro R ex c7
      exact MW 1 (WN (oE (iv c.1) [] ⟨by kernel_rfl, rfl⟩ c7))
     ·intro U V
      intro v10_ hb10_
      obtain ⟨rfl, _⟩ := hb10_
      intro v11_ hb11_
      obtain ⟨rfl, _⟩ := hb11_
      intro R ey b0
      exact wV (elemP A (c.1.toNat * 2)) ey (eI (ak.mem0 b0) rfl br) (WN (oE (elemP A (c.1.toNat * 2)) [] ⟨by kernel_rfl, rfl⟩ b0))
     ·intro U V
      intro v12_ hb12_
      obtain ⟨rfl, _⟩ := hb12_
      intro R ez b1
      exact wV (elemP A (c.1.toNat * 2 + 0)) ez (eF 0 (c.1.toNat * 2) 0 (ak.mem0 b1) br) (WN (oE (elemP A (c.1.toNat * 2 + 0)) [] ⟨by kernel_rfl, rfl⟩ b1))
     ·intro U V
      intro v13_ hb13_
      obtain ⟨rfl, _⟩ := hb13_
      intro R e0 b2
      exact wV (iv ar.Priority) e0 (eE false 1 0 (c.1.toNat * 2 + 0) (ak.mem0 b2) br) (WN (oE (iv ar.Priority) [] ⟨by kernel_rfl, rfl⟩ b2))
     ·intro U V
      intro v7_ hb7_
      obtain ⟨rfl, _⟩ := hb7_
      intro v8_ hb8_
      obtain ⟨rfl, _⟩ := hb8_
      intro v14_ hb14_
      obtain ⟨rfl, _⟩ := hb14_
      intro R e1 az
      refine WC ((c_s_l10Raise e1 E ((q 0).1) ((q 0).2) ((a4.r az 7).at_ av 0 ⟨Int, Gx.encI, E.Stack, (q 0).1, (q 0).2⟩ (by kernel_rfl)) ((q 1).1) ((q 1).2) ((a4.r az 7).at_ av 1 ⟨Slot, encSlot, E.Queue.Slots, (q 1).1, (q 1).2⟩ (by kernel_rfl)) ((q 2).1) ((q 2).2) ((a4.r az 7).at_ av 2 ⟨Waiter, encWaiter, E.Queue.Waiting, (q 2).1, (q 2).2⟩ (by kernel_rfl)) c.1 ar.Priority d6).mono ?_)
      rintro e_ ff ⟨ac, Z, W, ad, aa, X, ae, ab, Y, rfl, bm, bn, bo, ct⟩
      refine ⟨_, rfl, ?_⟩
      exact WN (oE (.agg #[iv l.Mask, .slice ac l.Stack.length Z, .slice ad l.Queue.Slots.length aa, .slice ae l.Queue.Waiting.length ab]) (W ++ (X ++ Y)) ⟨ac, Z, W, ad, aa, X, ae, ab, Y, rfl, rfl, bm, bn, bo⟩ (Mem.callMid az (ct.permF (by simp))))
     intro U V
     intro v1_ hb1_
     obtain ⟨rfl, _⟩ := hb1_
     intro v2_ hb2_
     obtain ⟨rfl, _⟩ := hb2_
     intro v15_ hb15_
     obtain ⟨ac, Z, W, ad, aa, X, ae, ab, Y, rfl, hs15_, bm, bn, bo⟩ := hb15_
     intro bs c8
     have au : Mem [] w bs [[(u, .cells ⟨[.slice A d.Routes.length F, .slice O d.Enabled.length Q, .slice P d.Raised.length S, .slice L d.Cpus.length T]⟩ 32 (0, 0))], [(y, .cells ⟨[.slice none 0 0, .slice none 0 0, .slice none 0 0, .slice none 0 0]⟩ 32 (0, 0))], af, ag, [(n, .cells ⟨[.slice I t.Routes.length G, .slice J t.Enabled.length H, .slice B (c.2.1.set c.1.toNat false).length D, .slice x c.2.2.length z]⟩ 32 (0, 0))], al, ai, aj, (U 15)] := c8
     rw [hs15_] at au
     replace au : Mem [] w bs [[(u, .cells ⟨[.slice A d.Routes.length F, .slice O d.Enabled.length Q, .slice P d.Raised.length S, .slice L d.Cpus.length T]⟩ 32 (0, 0))], [(y, .cells ⟨[.slice none 0 0, .slice none 0 0, .slice none 0 0, .slice none 0 0]⟩ 32 (0, 0))], af, ag, [(n, .cells ⟨[.slice I t.Routes.length G, .slice J t.Enabled.length H, .slice B (c.2.1.set c.1.toNat false).length D, .slice x c.2.2.length z]⟩ 32 (0, 0))], al, ai, aj, W, X, Y] := au.permF (by simp)
     obtain ⟨e5, eb, hm⟩ := gx_bind hm
     obtain ⟨df, a3⟩ := gxIdx_fst an eb
     refine wV (elemP x (m.Target.toNat * 4)) bs (eI (a6.r au 6) (len_fst an) a3) ?_
     obtain ⟨ao, ee, ap, d7, fa, d3⟩ := a4.lens (gxIdx_spec a3).2
     have c9 := au.cut 7 (sa := ao) (sb := ee) (sc := ap) d7 (by kernel_rfl)
     refine wE true 4 m.Target.toNat 0 (m.Target.toNat * 4) (e5, df) (l, (plOf [(ac, Z), (ad, aa), (ae, ab)])) (.agg #[iv l.Mask, .slice ac l.Stack.length Z, .slice ad l.Queue.Slots.length aa, .slice ae l.Queue.Waiting.length ab]) 6 c9 a6 (gxIdx_spec a3).2 ?_
     intro bt aw d0 da
     have db : Mem [] w bt [[(u, .cells ⟨[.slice A d.Routes.length F, .slice O d.Enabled.length Q, .slice P d.Raised.length S, .slice L d.Cpus.length T]⟩ 32 (0, 0))], [(y, .cells ⟨[.slice none 0 0, .slice none 0 0, .slice none 0 0, .slice none 0 0]⟩ 32 (0, 0))], af, ag, [(n, .cells ⟨[.slice I t.Routes.length G, .slice J t.Enabled.length H, .slice B (c.2.1.set c.1.toNat false).length D, .slice x c.2.2.length z]⟩ 32 (0, 0))], al, aw, ao, W, X, Y, ap] := da.pk [0, 1, 2, 3, 4, 5, 6, 7, 8, 9, 10, 12]
     have dc : Mem [] w bt [[(u, .cells ⟨[.slice A d.Routes.length F, .slice O d.Enabled.length Q, .slice P d.Raised.length S, .slice L d.Cpus.length T]⟩ 32 (0, 0))], [(y, .cells ⟨[.slice none 0 0, .slice none 0 0, .slice none 0 0, .slice none 0 0]⟩ 32 (0, 0))], af, ag, [(n, .cells ⟨[.slice I t.Routes.length G, .slice J t.Enabled.length H, .slice B (c.2.1.set c.1.toNat false).length D, .slice x c.2.2.length z]⟩ 32 (0, 0))], al, aw, (ao ++ ((W ++ (X ++ (Y ++ []))) ++ ap))] := db.regroup (by simp)
     have d1 : ownD deepInterface (c.2.2.set m.Target.toNat l) x z aw (ao ++ ((W ++ (X ++ (Y ++ []))) ++ ap)) := ⟨_, set_fst an m.Target.toNat (l, (plOf [(ac, Z), (ad, aa), (ae, ab)])), d0, (d3 (l, (plOf [(ac, Z), (ad, aa), (ae, ab)])) _ (ownI_cons (i := ⟨Int, Gx.encI, _, _, _⟩) bm (ownI_cons (i := ⟨Slot, encSlot, _, _, _⟩) bn (ownI_cons (i := ⟨Waiter, encWaiter, _, _, _⟩) bo ownI_nil))))⟩
     have fb := gxIdx_put l (gxIdx_down an a3)
     refine LX 46 x z c.2.2 m.Target.toNat l ?_
     have dd : Mem [] w bt [[(u, .cells ⟨[.slice A d.Routes.length F, .slice O d.Enabled.length Q, .slice P d.Raised.length S, .slice L d.Cpus.length T]⟩ 32 (0, 0))], [(y, .cells ⟨[.slice none 0 0, .slice none 0 0, .slice none 0 0, .slice none 0 0]⟩ 32 (0, 0))], af, ag, [(n, .cells ⟨[.slice I t.Routes.length G, .slice J t.Enabled.length H, .slice B (c.2.1.set c.1.toNat false).length D, .slice x (c.2.2.set m.Target.toNat l).length z]⟩ 32 (0, 0))], al, aw, (ao ++ ((W ++ (X ++ (Y ++ []))) ++ ap))] := by rw [@List.length_set _ c.2.2 m.Target.toNat l]; exact dc
     refine WN ?_
     obtain rfl := HS hm
     exact N_meet fun a ha => ⟨al, aw, (ao ++ ((W ++ (X ++ (Y ++ []))) ++ ap)), dz, d1, dd.pk [0, 1, 2, 3, 4, 5, 6, 7], ha.s⟩
    refine gF bk (GK ?_)
    obtain rfl := HS hm
    exact N_meet fun a ha => ⟨aq, ai, aj, a5, bl, ay.pk [0, 1, 2, 3, 4, 5, 6, 7], ha.s⟩
   intro e8 e2 ⟨bb, bc, bd, dx, dy, de, di⟩
   refine N_use di ?_
   have hm := dm
   refine BN (TN (GR (wR 3 [(1, pB u 0), (2, pB y 0), (3, pB n 0), (4, iv (w64 (c.1 + 1)))] e2 (WN ?_))))
   cases hm
   exact N_loop fun a ha => ⟨_, rfl, bb, bc, bd, dx, dy, de.pk [0, 1, 2, 3, 4, 5, 6, 7], ha.s⟩
  refine gF bh (XA ?_)
  obtain rfl := HS hm
  obtain rfl := d2 _ rfl
  exact N_meet fun a ha => ⟨aq, ai, aj, a5, bl, K.pk [1, 2, 3, 4, 5, 6, 7], ha.s⟩
 intro e9 e3 ⟨a8, a9, ba, dt, du, b3, dj⟩
 refine N_use dj ?_
 have hm := dn
 refine NF (wV (.agg #[.slice I t.Routes.length G, .slice J t.Enabled.length H, .slice B N.1.length D, .slice x N.2.length z]) e3 (eL true 4 0 (b3.blk 3 rfl)) (wS true 4 0 (.agg #[.slice I t.Routes.length G, .slice J t.Enabled.length H, .slice B N.1.length D, .slice x N.2.length z]) 0 [.slice I t.Routes.length G, .slice J t.Enabled.length H, .slice B N.1.length D, .slice x N.2.length z] b3 rfl fun fg b4 => NC ?_))
 obtain rfl := HS hm
 exact N_ret [.agg #[.slice I t.Routes.length G, .slice J t.Enabled.length H, .slice B N.1.length D, .slice x N.2.length z]] (RX true 4 0 (b4.blk 0 rfl) RVs_nil) (⟨I, G, af, J, H, ag, B, D, a8, x, z, a9, ba, rfl, dp, dq, dt, du, b4.pk [1, 2, 4, 5, 6]⟩)
theorem c_s_l10Running (w : World) (a : Interface) (h : Option Addr) (i : Nat) (o : rdS Gx.encI w a.Stack h i) (f : Option Addr) (c : Nat) (u : rdS encSlot w a.Queue.Slots f c) (g : Option Addr) (d : Nat) (v : rdS encWaiter w a.Queue.Waiting g d) {r : Int} (hm : M.s_l10Running a = some r) :
  Calls Tryz.prog 175 #[.agg #[iv a.Mask, .slice h a.Stack.length i, .slice f a.Queue.Slots.length c, .slice g a.Queue.Waiting.length d]] w fun e w' => e = .returned (iv r) ∧ Mem [] w w' [] := by
 unfold M.s_l10Running at hm
 refine cE Tryz.func175 ?_
 have M0 := Mem.refl [] w
 refine QA (wN (.cells ⟨[iv a.Mask, .slice h a.Stack.length i, .slice f a.Queue.Slots.length c, .slice g a.Queue.Waiting.length d]⟩ 87 (0, 0)) M0 fun b j l => MW 1 (NB (MW 1 (wV (.slice h a.Stack.length i) j (eL false 1 1 (l.blk 0 rfl)) (MW 2 (NA (wR 2 [(1, pB b 0), (3, iv (a.Stack.length : Int)), (8, .bool (decide ((a.Stack.length : Int) > 0)))] j (NO ?_))))))))
 rcases gx_bif hm with ⟨m, hm⟩ | ⟨m, hm⟩
 ·refine gT m (GS (G_quiet (by kernel_rfl) (by kernel_rfl) l (MZ 1 (zV (.agg #[.slice f a.Queue.Slots.length c, .slice g a.Queue.Waiting.length d]) (fun w_ M_ => (eL true 2 2 (M_.blk 0 rfl))) (MZ 1 (zV (.slice h a.Stack.length i) (fun w_ M_ => (eL false 1 1 (M_.blk 0 rfl))) (MS 2 [(10, .agg #[.slice f a.Queue.Slots.length c, .slice g a.Queue.Waiting.length d]), (12, .slice h a.Stack.length i), (14, iv (w64 ((a.Stack.length : Int) - 1)))] ?_)))))))
  obtain ⟨n, q, hm⟩ := gx_bind hm
  refine zV (elemP h ((w64 ((a.Stack.length : Int) - 1)).toNat * 1)) (fun w_ M_ => (eI (o.mem0 M_) rfl q)) (zV (iv n) (fun w_ M_ => (eE false 1 0 ((w64 ((a.Stack.length : Int) - 1)).toNat * 1) (o.mem0 M_) q)) ?_)
  obtain ⟨k, x, hm⟩ := gx_bind hm
  refine ZC (iv k) (fun w_ M_ => c_s_l10Level w_ a.Queue f c (u.mem0 M_) g d (v.mem0 M_) n x) (MS 1 [(2, iv k)] (Z_end fun y t => (TN (G_ret (TR ?_)))))
  obtain rfl := HS hm
  exact RA [iv k] (⟨rfl, t.pk []⟩)
 refine gF m (KA (wR 1 [(2, iv 16)] j (NC ?_)))
 obtain rfl := HS hm
 exact RA [iv 16] (⟨rfl, l.pk []⟩)
theorem c_s_l1Least (w : World) (a : Int) (b : Int) {r : Int} (hm : M.s_l1Least a b = some r) :
  Calls Tryz.prog 174 #[iv a, iv b] w fun e w' => e = .returned (iv r) ∧ Mem [] w w' [] := by
 unfold M.s_l1Least at hm
 refine cE Tryz.func174 ?_
 have M0 := Mem.refl [] w
 refine QA (MW 1 (NB (wR 3 [(0, iv a), (1, iv b), (7, .bool (decide (a < b)))] w (NO ?_))))
 rcases gx_bif hm with ⟨c, hm⟩ | ⟨c, hm⟩
 ·refine gT c (QA (wR 2 [(4, iv a)] w (ND ?_)))
  obtain rfl := HS hm
  exact RA [iv a] (⟨rfl, M0.pk []⟩)
 refine gF c (KA (wR 2 [(4, iv b)] w (NC ?_)))
 obtain rfl := HS hm
 exact RA [iv b] (⟨rfl, M0.pk []⟩)
theorem c_s_l8Take (w : World) (d : List Slot) (c : Option Addr) (g : Nat) (y : rdS encSlot w d c g) (u : Int) {r : (List Slot) × Int} (hm : M.s_l8Take d u = some r) :
  Calls Tryz.prog 226 #[.slice c d.length g, iv u] w fun e w' => ∃ (L : Option Addr) (J : Nat) (N : Seg), e = .returned (.tuple #[.slice L r.1.length J, iv r.2]) ∧ ownS encSlot r.1 L J N ∧ Mem [] w w' [N] := by
 unfold M.s_l8Take at hm
 refine cE Tryz.func226 ?_
 have M0 := Mem.refl [] w
 refine QA (MW 2 (NA (wR 1 [(0, .slice c d.length g), (1, iv u), (8, .slice c d.length g)] w ?_)))
 obtain ⟨k, af, hm⟩ := gx_bind hm
 refine WD (c_s_l8Best w d c g (y.mem0 M0) true af) M0 fun t z => wR 1 [(0, .slice c d.length g), (1, iv u), (6, iv k)] t (NE (GS ?_))
 obtain ⟨ah, ae, ad⟩ := gx_bind hm
 refine G_meet (fun a w' => Mem [] w w' [] ∧ Sat Tryz.f226.ntmps [(0, .slice c d.length g), (6, iv k), (20, .bool ah)] a) ?_ ?_
 ·have hm := ae
  refine GR (wR 3 [(0, .slice c d.length g), (1, iv u), (6, iv k), (12, .bool (decide (k < 0)))] t ?_)
  rcases gx_bif hm with ⟨C, hm⟩ | ⟨C, hm⟩
  ·refine wK 12 true C (wR 8 [(0, .slice c d.length g), (6, iv k), (20, .bool true)] t (WN ?_))
   obtain rfl := HS hm
   exact N_meet fun a ha => ⟨z.pk [], ha.s⟩
  refine wK 12 false C (wR 2 [(0, .slice c d.length g), (1, iv u), (6, iv k), (12, .bool false), (13, .slice c d.length g), (14, iv k)] t ?_)
  obtain ⟨P, F, hm⟩ := gx_bind hm
  refine wV (elemP c (k.toNat * 3)) t (eI (y.mem0 z) rfl F) (wV (elemP c (k.toNat * 3 + 2)) t (eF 2 (k.toNat * 3) 2 (y.mem0 z) F) (wV (iv P.Priority) t (eE false 1 2 (k.toNat * 3 + 2) (y.mem0 z) F) (wR 3 [(0, .slice c d.length g), (6, iv k), (20, .bool (decide (P.Priority ≥ u)))] t (WN ?_))))
  obtain rfl := HS hm
  exact N_meet fun a ha => ⟨z.pk [], ha.s⟩
 intro ar A ⟨B, ac⟩
 refine N_use ac ?_
 have hm := ad
 refine TN ?_
 rcases gx_bif hm with ⟨D, hm⟩ | ⟨D, hm⟩
 ·refine gT D (QA (wR 3 [(4, .slice c d.length g), (5, iv (-1))] A (ND ?_)))
  cases hm
 refine gF D (KA (wR 2 [(0, .slice c d.length g), (6, iv k), (22, .slice c d.length g), (23, iv k)] A ?_))
 obtain ⟨b, K, hm⟩ := gx_bind hm
 refine wV (elemP c (k.toNat * 3)) A (eI (y.mem0 B) rfl K) (wV (.agg #[iv b.State, iv b.Irq, iv b.Priority]) A (eE true 3 0 (k.toNat * 3) (y.mem0 B) K) (wN (.cells ⟨[iv 0, iv 0, iv 0]⟩ 117 (0, 0)) B fun o au T => wS true 3 0 (.agg #[iv b.State, iv b.Irq, iv b.Priority]) 0 [iv b.State, iv b.Irq, iv b.Priority] T rfl fun aj U => NA (wR 1 [(0, .slice c d.length g), (6, iv k), (7, pB o 0), (26, pB o 0)] aj (wS false 1 0 (iv 2) 0 [iv 2, iv b.Irq, iv b.Priority] U rfl fun av V => NE ?_))))
 obtain ⟨n, ag, hm⟩ := gx_bind hm
 refine G_sub [(0, .slice c d.length g), (6, iv k), (7, pB o 0), (26, pB o 0)] (by kernel_rfl) (G_dagL 7 [[], [], [], [0, 1, 2], [], [4], []] [[], [], [], [], [], [], []] [[], [], [], [], [], [], []] [[], [], [], [], [], [], [3]] [[], [], [], [], [], [], [3]] [[], [], [], [], [], [], []] (fun _ => []) (fun i => ([fun f v s => v = (.slice c d.length g : Value) ∧ s = [], fun f v s => v = (iv k : Value) ∧ s = [], fun f v s => v = (.agg #[iv 2, iv b.Irq, iv b.Priority] : Value) ∧ s = [], fun f v s => ∃ (m : Option Addr) (l : Nat), v = (.slice m n.length l : Value) ∧ ownS encSlot n m l s, fun f v s => v = (pB o 1 : Value) ∧ s = [], fun f v s => v = (iv b.Irq : Value) ∧ s = [], fun f v s => v = ((atPath (f 3) []) : Value) ∧ s = []] : List ((Nat → Value) → Value → Seg → Prop)).getD i (fun _ _ _ => False)) (fun j f v => ∃ s, (fun i => ([fun f v s => v = (.slice c d.length g : Value) ∧ s = [], fun f v s => v = (iv k : Value) ∧ s = [], fun f v s => v = (.agg #[iv 2, iv b.Irq, iv b.Priority] : Value) ∧ s = [], fun f v s => ∃ (m : Option Addr) (l : Nat), v = (.slice m n.length l : Value) ∧ ownS encSlot n m l s, fun f v s => v = (pB o 1 : Value) ∧ s = [], fun f v s => v = (iv b.Irq : Value) ∧ s = [], fun f v s => v = ((atPath (f 3) []) : Value) ∧ s = []] : List ((Nat → Value) → Value → Seg → Prop)).getD i (fun _ _ _ => False)) j f v s) [] [3, 5, 6] [3] (fun _ _ _ s h => ⟨s, h⟩) (by kernel_rfl) (by kernel_rfl) (V.preNil 7) (by kernel_rfl) (by kernel_rfl) (by kernel_rfl) (by kernel_rfl) (allOb_cons ?_ (allOb_cons ?_ (allOb_cons ?_ (allOb_cons ?_ (allOb_cons ?_ (allOb_cons ?_ (allOb_cons ?_ allOb_nil))))))) ?_)
 ·intro q x
  intro R ak W
  exact MW 1 (WN (oE (.slice c d.length g) [] ⟨by kernel_rfl, rfl⟩ W))
 ·intro q x
  intro R al X
  exact MW 1 (WN (oE (iv k) [] ⟨by kernel_rfl, rfl⟩ X))
 ·intro q x
  intro R am G
  exact wV (.agg #[iv 2, iv b.Irq, iv b.Priority]) am (eL true 3 0 (G.blk 0 rfl)) (WN (oE (.agg #[iv 2, iv b.Irq, iv b.Priority]) [] ⟨by kernel_rfl, rfl⟩ G))
 ·intro q x
  intro v0_ hb0_
  obtain ⟨rfl, _⟩ := hb0_
  intro v1_ hb1_
  obtain ⟨rfl, _⟩ := hb1_
  intro v2_ hb2_
  obtain ⟨rfl, _⟩ := hb2_
  intro R an H
  refine WC ((c_s_l8With an d c g (y.mem0 H) k (⟨2, b.Irq, b.Priority⟩ : Slot) ag).mono ?_)
  rintro e_ aw ⟨m, l, ai, rfl, E, S⟩
  refine ⟨_, rfl, ?_⟩
  exact WN (oE (.slice m n.length l) ai ⟨m, l, rfl, E⟩ (Mem.callMid H S))
 ·intro q x
  intro R ao Y
  exact MW 1 (WN (oE (pB o 1) [] ⟨by kernel_rfl, rfl⟩ Y))
 ·intro q x
  intro v4_ hb4_
  obtain ⟨rfl, _⟩ := hb4_
  intro R ap I
  exact wV (iv b.Irq) ap (eL false 1 1 (I.blk 0 rfl)) (WN (oE (iv b.Irq) [] ⟨by kernel_rfl, rfl⟩ I))
 ·intro q x
  intro v3_ hb3_
  obtain ⟨_, m, l, rfl, _⟩ := hb3_
  intro R aq Z
  exact MW 1 (WN (oE (.slice m n.length l) [] ⟨by kernel_rfl, rfl⟩ Z))
 intro q x
 intro v3_ hb3_
 obtain ⟨m, l, rfl, E⟩ := hb3_
 intro v5_ hb5_
 obtain ⟨rfl, _⟩ := hb5_
 intro v6_ hb6_
 obtain ⟨hv6_, _⟩ := hb6_
 obtain rfl : v6_ = (.slice m n.length l : Value) := hv6_.trans (by kernel_rfl)
 intro O aa
 have ab : Mem [] w O [[(o, .cells ⟨[iv 2, iv b.Irq, iv b.Priority]⟩ 117 (0, 0))], (q 3)] := aa
 refine wR 1 [(4, .slice m n.length l), (5, iv b.Irq)] O (NC ?_)
 cases hm
 exact RA [.slice m n.length l, iv b.Irq] (⟨m, l, (q 3), rfl, E, ab.pk [1]⟩)
theorem c_s_l8Take__k (w : World) (d : List Slot) (b : Option Addr) (g : Nat) (y : rdS encSlot w d b g) (u : Int) {r : (List Slot) × Int} (hm : M.s_l8Take__k d u = some r) :
  Calls Tryz.prog 226 #[.slice b d.length g, iv u] w fun e w' => e = .returned (.tuple #[.slice b d.length g, iv r.2]) ∧ Mem [] w w' [] := by
 unfold M.s_l8Take__k at hm
 refine cE Tryz.func226 ?_
 have M0 := Mem.refl [] w
 refine QA (MW 2 (NA (wR 1 [(0, .slice b d.length g), (1, iv u), (8, .slice b d.length g)] w ?_)))
 obtain ⟨k, ab, hm⟩ := gx_bind hm
 refine WD (c_s_l8Best w d b g (y.mem0 M0) true ab) M0 fun t z => wR 1 [(0, .slice b d.length g), (1, iv u), (6, iv k)] t (NE (GS ?_))
 obtain ⟨ad, aa, Z⟩ := gx_bind hm
 refine G_meet (fun a w' => Mem [] w w' [] ∧ Sat Tryz.f226.ntmps [(0, .slice b d.length g), (6, iv k), (20, .bool ad)] a) ?_ ?_
 ·have hm := aa
  refine GR (wR 3 [(0, .slice b d.length g), (1, iv u), (6, iv k), (12, .bool (decide (k < 0)))] t ?_)
  rcases gx_bif hm with ⟨C, hm⟩ | ⟨C, hm⟩
  ·refine wK 12 true C (wR 8 [(0, .slice b d.length g), (6, iv k), (20, .bool true)] t (WN ?_))
   obtain rfl := HS hm
   exact N_meet fun a ha => ⟨z.pk [], ha.s⟩
  refine wK 12 false C (wR 2 [(0, .slice b d.length g), (1, iv u), (6, iv k), (12, .bool false), (13, .slice b d.length g), (14, iv k)] t ?_)
  obtain ⟨L, E, hm⟩ := gx_bind hm
  refine wV (elemP b (k.toNat * 3)) t (eI (y.mem0 z) rfl E) (wV (elemP b (k.toNat * 3 + 2)) t (eF 2 (k.toNat * 3) 2 (y.mem0 z) E) (wV (iv L.Priority) t (eE false 1 2 (k.toNat * 3 + 2) (y.mem0 z) E) (wR 3 [(0, .slice b d.length g), (6, iv k), (20, .bool (decide (L.Priority ≥ u)))] t (WN ?_))))
  obtain rfl := HS hm
  exact N_meet fun a ha => ⟨z.pk [], ha.s⟩
 intro ao B ⟨A, Y⟩
 refine N_use Y ?_
 have hm := Z
 refine TN ?_
 rcases gx_bif hm with ⟨D, hm⟩ | ⟨D, hm⟩
 ·refine gT D (QA (wR 3 [(4, .slice b d.length g), (5, iv (-1))] B (ND ?_)))
  cases hm
  exact RA [.slice b d.length g, iv (-1)] (⟨rfl, A.pk []⟩)
 refine gF D (KA (wR 2 [(0, .slice b d.length g), (6, iv k), (22, .slice b d.length g), (23, iv k)] B ?_))
 obtain ⟨c, J, hm⟩ := gx_bind hm
 refine wV (elemP b (k.toNat * 3)) B (eI (y.mem0 A) rfl J) (wV (.agg #[iv c.State, iv c.Irq, iv c.Priority]) B (eE true 3 0 (k.toNat * 3) (y.mem0 A) J) (wN (.cells ⟨[iv 0, iv 0, iv 0]⟩ 117 (0, 0)) A fun n ap P => wS true 3 0 (.agg #[iv c.State, iv c.Irq, iv c.Priority]) 0 [iv c.State, iv c.Irq, iv c.Priority] P rfl fun af Q => NA (wR 1 [(0, .slice b d.length g), (6, iv k), (7, pB n 0), (26, pB n 0)] af (wS false 1 0 (iv 2) 0 [iv 2, iv c.Irq, iv c.Priority] Q rfl fun aq S => NE ?_))))
 obtain ⟨o, ac, hm⟩ := gx_bind hm
 refine G_sub [(0, .slice b d.length g), (6, iv k), (7, pB n 0), (26, pB n 0)] (by kernel_rfl) (G_dagL 7 [[], [], [], [0, 1, 2], [], [4], []] [[], [], [], [], [], [], []] [[], [], [], [], [], [], []] [[], [], [], [], [], [], [3]] [[], [], [], [], [], [], [3]] [[], [], [], [], [], [], []] (fun _ => []) (fun i => ([fun f v s => v = (.slice b d.length g : Value) ∧ s = [], fun f v s => v = (iv k : Value) ∧ s = [], fun f v s => v = (.agg #[iv 2, iv c.Irq, iv c.Priority] : Value) ∧ s = [], fun f v s => ∃ (m : Option Addr) (l : Nat), v = (.slice m o.length l : Value) ∧ ownS encSlot o m l s, fun f v s => v = (pB n 1 : Value) ∧ s = [], fun f v s => v = (iv c.Irq : Value) ∧ s = [], fun f v s => v = ((atPath (f 3) []) : Value) ∧ s = []] : List ((Nat → Value) → Value → Seg → Prop)).getD i (fun _ _ _ => False)) (fun j f v => ∃ s, (fun i => ([fun f v s => v = (.slice b d.length g : Value) ∧ s = [], fun f v s => v = (iv k : Value) ∧ s = [], fun f v s => v = (.agg #[iv 2, iv c.Irq, iv c.Priority] : Value) ∧ s = [], fun f v s => ∃ (m : Option Addr) (l : Nat), v = (.slice m o.length l : Value) ∧ ownS encSlot o m l s, fun f v s => v = (pB n 1 : Value) ∧ s = [], fun f v s => v = (iv c.Irq : Value) ∧ s = [], fun f v s => v = ((atPath (f 3) []) : Value) ∧ s = []] : List ((Nat → Value) → Value → Seg → Prop)).getD i (fun _ _ _ => False)) j f v s) [] [3, 5, 6] [3] (fun _ _ _ s h => ⟨s, h⟩) (by kernel_rfl) (by kernel_rfl) (S.preNil 7) (by kernel_rfl) (by kernel_rfl) (by kernel_rfl) (by kernel_rfl) (allOb_cons ?_ (allOb_cons ?_ (allOb_cons ?_ (allOb_cons ?_ (allOb_cons ?_ (allOb_cons ?_ (allOb_cons ?_ allOb_nil))))))) ?_)
 ·intro q x
  intro R ag T
  exact MW 1 (WN (oE (.slice b d.length g) [] ⟨by kernel_rfl, rfl⟩ T))
 ·intro q x
  intro R ah U
  exact MW 1 (WN (oE (iv k) [] ⟨by kernel_rfl, rfl⟩ U))
 ·intro q x
  intro R ai F
  exact wV (.agg #[iv 2, iv c.Irq, iv c.Priority]) ai (eL true 3 0 (F.blk 0 rfl)) (WN (oE (.agg #[iv 2, iv c.Irq, iv c.Priority]) [] ⟨by kernel_rfl, rfl⟩ F))
 ·intro q x
  intro v0_ hb0_
  obtain ⟨rfl, _⟩ := hb0_
  intro v1_ hb1_
  obtain ⟨rfl, _⟩ := hb1_
  intro v2_ hb2_
  obtain ⟨rfl, _⟩ := hb2_
  intro R aj G
  refine WC ((c_s_l8With aj d b g (y.mem0 G) k (⟨2, c.Irq, c.Priority⟩ : Slot) ac).mono ?_)
  rintro e_ ar ⟨m, l, ae, rfl, I, O⟩
  refine ⟨_, rfl, ?_⟩
  exact WN (oE (.slice m o.length l) ae ⟨m, l, rfl, I⟩ (Mem.callMid G O))
 ·intro q x
  intro R ak V
  exact MW 1 (WN (oE (pB n 1) [] ⟨by kernel_rfl, rfl⟩ V))
 ·intro q x
  intro v4_ hb4_
  obtain ⟨rfl, _⟩ := hb4_
  intro R al H
  exact wV (iv c.Irq) al (eL false 1 1 (H.blk 0 rfl)) (WN (oE (iv c.Irq) [] ⟨by kernel_rfl, rfl⟩ H))
 ·intro q x
  intro v3_ hb3_
  obtain ⟨_, m, l, rfl, _⟩ := hb3_
  intro R am W
  exact MW 1 (WN (oE (.slice m o.length l) [] ⟨by kernel_rfl, rfl⟩ W))
 intro q x
 intro v3_ hb3_
 obtain ⟨m, l, rfl, I⟩ := hb3_
 intro v5_ hb5_
 obtain ⟨rfl, _⟩ := hb5_
 intro v6_ hb6_
 obtain ⟨hv6_, _⟩ := hb6_
 obtain rfl : v6_ = (.slice m o.length l : Value) := hv6_.trans (by kernel_rfl)
 intro K X
 have an : Mem [] w K [[(n, .cells ⟨[iv 2, iv c.Irq, iv c.Priority]⟩ 117 (0, 0))], (q 3)] := X
 refine wR 1 [(4, .slice m o.length l), (5, iv c.Irq)] K (NC ?_)
 cases hm
theorem c_s_l9Take (w : World) (a : Queue) (A : Option Addr) (z : Nat) (af : rdS encSlot w a.Slots A z) (J : Option Addr) (G : Nat) (ay : rdS encWaiter w a.Waiting J G) (X : Int) {r : Queue × Int} (hm : M.s_l9Take a X = some r) :
  Calls Tryz.prog 173 #[.agg #[.slice A a.Slots.length z, .slice J a.Waiting.length G], iv X] w fun e w' => ∃ (az : Option Addr) (aw : Nat) (a3 : Seg), ∃ (a0 : Option Addr) (ax : Nat) (a4 : Seg), e = .returned (.tuple #[.agg #[.slice az r.1.Slots.length aw, .slice a0 r.1.Waiting.length ax], iv r.2]) ∧ ownS encSlot r.1.Slots az aw a3 ∧ ownS encWaiter r.1.Waiting a0 ax a4 ∧ Mem [] w w' [a3, a4] := by
 unfold M.s_l9Take at hm
 refine cE Tryz.func173 ?_
 have M0 := Mem.refl [] w
 refine QA (wN (.cells ⟨[.slice A a.Slots.length z, .slice J a.Waiting.length G]⟩ 85 (0, 0)) M0 fun y cy bc => wN (.cells ⟨[.slice none 0 0, .slice none 0 0]⟩ 85 (0, 0)) bc fun c ab ac => MW 1 (NA (MW 1 (wV (.slice A a.Slots.length z) ab (eL false 1 0 (ac.blk 0 rfl)) (wR 1 [(2, pB y 0), (4, pB c 0), (10, .slice A a.Slots.length z), (11, iv X)] ab ?_)))))
 rcases gx_alt hm with ⟨Y, cd, hm⟩ | hm
 ·refine WD (c_s_l8Take__k ab a.Slots A z (af.mem0 ac) X cd) ac fun a6 bd => wR 5 [(2, pB y 0), (4, pB c 0), (6, .slice A a.Slots.length z), (7, iv Y.2)] a6 (NE ?_)
  obtain ⟨B, b8, hm⟩ := gx_bind hm
  obtain ⟨C, b9, hm⟩ := gx_bind hm
  have be : Mem [] w a6 ([[(y, .cells ⟨[.slice A a.Slots.length z, .slice J a.Waiting.length G]⟩ 85 (0, 0))]] ++ (List.range 10).map (fun i => ([[], [], [], [], [], [], [], [], [], [(c, .cells ⟨[.slice none 0 0, .slice none 0 0]⟩ 85 (0, 0))]] : List Seg).getD i [])) := bd.pk [0, 300000, 300001, 300002, 300003, 300004, 300005, 300006, 300007, 300008, 1]
  refine G_sub [(2, pB y 0), (4, pB c 0), (6, .slice A a.Slots.length z), (7, iv Y.2)] (by kernel_rfl) (G_dagL 10 [[], [], [0, 1], [], [], [4], [3, 5], [], [], [7]] [[], [], [0], [], [], [], [3], [], [], []] [[], [], [], [], [], [], [], [], [], []] [[], [], [], [], [], [], [], [2, 6], [], [2, 6]] [[], [], [], [], [], [], [], [2, 6], [], [2, 6]] [[], [], [], [], [], [], [], [], [], []] (fun i => ([[], [], [], [], [], [], [], [], [], [(c, .cells ⟨[.slice none 0 0, .slice none 0 0]⟩ 85 (0, 0))]] : List Seg).getD i []) (fun i => ([fun f v s => ∃ (T : Option Addr) (O : Nat), v = (.slice T ([] : List Slot).length O : Value) ∧ ownS encSlot ([] : List Slot) T O s, fun f v s => v = (.slice A a.Slots.length z : Value) ∧ s = [], fun f v s => ∃ (q : Option Addr) (d : Nat), v = (.slice q B.length d : Value) ∧ ownS encSlot B q d s, fun f v s => ∃ (U : Option Addr) (P : Nat), v = (.slice U ([] : List Waiter).length P : Value) ∧ ownS encWaiter ([] : List Waiter) U P s, fun f v s => v = (pB y 1 : Value) ∧ s = [], fun f v s => v = (.slice J a.Waiting.length G : Value) ∧ s = [], fun f v s => ∃ (t : Option Addr) (l : Nat), v = (.slice t C.length l : Value) ∧ ownS encWaiter C t l s, fun f v s => v = (.agg #[(atPath (f 2) []), (atPath (f 6) [])] : Value) ∧ s = [], fun f v s => v = (iv Y.2 : Value) ∧ s = [], fun f v s => v = undef ∧ s = [(c, .cells ⟨[(atPath (f 2) []), (atPath (f 6) [])]⟩ 85 (0, 0))]] : List ((Nat → Value) → Value → Seg → Prop)).getD i (fun _ _ _ => False)) (fun j f v => ∃ s, (fun i => ([fun f v s => ∃ (T : Option Addr) (O : Nat), v = (.slice T ([] : List Slot).length O : Value) ∧ ownS encSlot ([] : List Slot) T O s, fun f v s => v = (.slice A a.Slots.length z : Value) ∧ s = [], fun f v s => ∃ (q : Option Addr) (d : Nat), v = (.slice q B.length d : Value) ∧ ownS encSlot B q d s, fun f v s => ∃ (U : Option Addr) (P : Nat), v = (.slice U ([] : List Waiter).length P : Value) ∧ ownS encWaiter ([] : List Waiter) U P s, fun f v s => v = (pB y 1 : Value) ∧ s = [], fun f v s => v = (.slice J a.Waiting.length G : Value) ∧ s = [], fun f v s => ∃ (t : Option Addr) (l : Nat), v = (.slice t C.length l : Value) ∧ ownS encWaiter C t l s, fun f v s => v = (.agg #[(atPath (f 2) []), (atPath (f 6) [])] : Value) ∧ s = [], fun f v s => v = (iv Y.2 : Value) ∧ s = [], fun f v s => v = undef ∧ s = [(c, .cells ⟨[(atPath (f 2) []), (atPath (f 6) [])]⟩ 85 (0, 0))]] : List ((Nat → Value) → Value → Seg → Prop)).getD i (fun _ _ _ => False)) j f v s) [] [2, 6, 8, 9] [2, 6, 9] (fun _ _ _ s h => ⟨s, h⟩) (by kernel_rfl) (by kernel_rfl) be (by kernel_rfl) (by kernel_rfl) (by kernel_rfl) (by kernel_rfl) (allOb_cons ?_ (allOb_cons ?_ (allOb_cons ?_ (allOb_cons ?_ (allOb_cons ?_ (allOb_cons ?_ (allOb_cons ?_ (allOb_cons ?_ (allOb_cons ?_ (allOb_cons ?_ allOb_nil)))))))))) ?_)
  ·intro H L
   intro R cz bf
   exact wL (E := encSlot) ([] : List Slot) 0 [] 117 bf fun T O cf c0 ag bg => WN (oE (.slice T ([] : List Slot).length O) cf ⟨T, O, rfl, ag⟩ (Mem.mid bg))
  ·intro H L
   intro R cn bh
   exact MW 1 (WN (oE (.slice A a.Slots.length z) [] ⟨by kernel_rfl, rfl⟩ bh))
  ·intro H L
   intro v0_ hb0_
   obtain ⟨T, O, rfl, ag⟩ := hb0_
   intro v1_ hb1_
   obtain ⟨rfl, _⟩ := hb1_
   intro R c1 ao
   exact wA 24 [iv 0, iv 0, iv 0] 2 ao ag (af.mem0 ao) b8 fun q d cg c2 ah bi => WN (oE (.slice q B.length d) cg ⟨q, d, rfl, ah⟩ (Mem.takeOver bi))
  ·intro H L
   intro R c3 bj
   exact wL (E := encWaiter) ([] : List Waiter) 0 [] 142 bj fun U P ch c4 ai bk => WN (oE (.slice U ([] : List Waiter).length P) ch ⟨U, P, rfl, ai⟩ (Mem.mid bk))
  ·intro H L
   intro R co bl
   exact MW 1 (WN (oE (pB y 1) [] ⟨by kernel_rfl, rfl⟩ bl))
  ·intro H L
   intro v4_ hb4_
   obtain ⟨rfl, _⟩ := hb4_
   intro R cp ap
   exact wV (.slice J a.Waiting.length G) cp (eL false 1 1 (ap.blk 0 rfl)) (WN (oE (.slice J a.Waiting.length G) [] ⟨by kernel_rfl, rfl⟩ ap))
  ·intro H L
   intro v3_ hb3_
   obtain ⟨U, P, rfl, ai⟩ := hb3_
   intro v5_ hb5_
   obtain ⟨rfl, _⟩ := hb5_
   intro R c5 aq
   exact wA 16 [iv 0, iv 0] 2 aq ai (ay.mem0 aq) b9 fun t l ci c6 aj bm => WN (oE (.slice t C.length l) ci ⟨t, l, rfl, aj⟩ (Mem.takeOver bm))
  ·intro H L
   intro v2_ hb2_
   obtain ⟨_, q, d, rfl, _⟩ := hb2_
   intro v6_ hb6_
   obtain ⟨_, t, l, rfl, _⟩ := hb6_
   intro R cq bn
   exact MW 1 (WN (oE (.agg #[.slice q B.length d, .slice t C.length l]) [] ⟨by kernel_rfl, rfl⟩ bn))
  ·intro H L
   intro R cr bo
   exact MW 1 (WN (oE (iv Y.2) [] ⟨by kernel_rfl, rfl⟩ bo))
  ·intro H L
   intro v2_ hb2_
   obtain ⟨_, q, d, rfl, _⟩ := hb2_
   intro v6_ hb6_
   obtain ⟨_, t, l, rfl, _⟩ := hb6_
   intro v7_ hb7_
   obtain ⟨hv7_, _⟩ := hb7_
   obtain rfl : v7_ = (.agg #[.slice q B.length d, .slice t C.length l] : Value) := hv7_.trans (by kernel_rfl)
   intro R c7 bp
   exact wS true 2 0 (.agg #[.slice q B.length d, .slice t C.length l]) 1 [.slice q B.length d, .slice t C.length l] bp rfl fun c8 bq => WN (ob_none [(c, .cells ⟨[.slice q B.length d, .slice t C.length l]⟩ 85 (0, 0))] rfl ⟨rfl, by kernel_rfl⟩ bq)
  intro H L
  intro v2_ hb2_
  obtain ⟨q, d, rfl, ah⟩ := hb2_
  intro v6_ hb6_
  obtain ⟨t, l, rfl, aj⟩ := hb6_
  intro v8_ hb8_
  obtain ⟨rfl, _⟩ := hb8_
  intro v9_ hb9_
  obtain ⟨rfl, hs9_⟩ := hb9_
  replace hs9_ := hs9_.trans (show _ = [(c, .cells ⟨[.slice q B.length d, .slice t C.length l]⟩ 85 (0, 0))] by kernel_rfl)
  intro a7 br
  have ad : Mem [] w a7 [[(y, .cells ⟨[.slice A a.Slots.length z, .slice J a.Waiting.length G]⟩ 85 (0, 0))], (H 2), (H 6), (H 9)] := br
  rw [hs9_] at ad
  refine wR 1 [(4, pB c 0), (5, iv Y.2)] a7 (NC ?_)
  obtain rfl := HS hm
  exact N_ret [.agg #[.slice q B.length d, .slice t C.length l], iv Y.2] (RX true 2 0 (ad.blk 3 rfl) (rC RVs_nil)) (⟨q, d, (H 2), t, l, (H 6), rfl, ah, aj, ad.pk [1, 2]⟩)
 obtain ⟨K, ce, hm⟩ := gx_bind hm
 refine WC ((c_s_l8Take ab a.Slots A z (af.mem0 ac) X ce).mono ?_)
 rintro e_ a8 ⟨aa, Z, a5, rfl, cc, bb⟩
 have bs := ac.call bb
 refine ⟨_, rfl, ?_⟩
 refine wR 5 [(2, pB y 0), (4, pB c 0), (6, .slice aa K.1.length Z), (7, iv K.2)] a8 (NE ?_)
 obtain ⟨D, ca, hm⟩ := gx_bind hm
 obtain ⟨F, cb, hm⟩ := gx_bind hm
 have bt : Mem [] w a8 ([[(y, .cells ⟨[.slice A a.Slots.length z, .slice J a.Waiting.length G]⟩ 85 (0, 0))], a5] ++ (List.range 10).map (fun i => ([[], [], [], [], [], [], [], [], [], [(c, .cells ⟨[.slice none 0 0, .slice none 0 0]⟩ 85 (0, 0))]] : List Seg).getD i [])) := bs.pk [0, 2, 300000, 300001, 300002, 300003, 300004, 300005, 300006, 300007, 300008, 1]
 refine G_sub [(2, pB y 0), (4, pB c 0), (6, .slice aa K.1.length Z), (7, iv K.2)] (by kernel_rfl) (G_dagL 10 [[], [], [0, 1], [], [], [4], [3, 5], [], [], [7]] [[], [], [0], [], [], [], [3], [], [], []] [[], [], [], [], [], [], [], [], [], []] [[], [], [], [], [], [], [], [2, 6], [], [2, 6]] [[], [], [], [], [], [], [], [2, 6], [], [2, 6]] [[], [], [], [], [], [], [], [], [], []] (fun i => ([[], [], [], [], [], [], [], [], [], [(c, .cells ⟨[.slice none 0 0, .slice none 0 0]⟩ 85 (0, 0))]] : List Seg).getD i []) (fun i => ([fun f v s => ∃ (V : Option Addr) (Q : Nat), v = (.slice V ([] : List Slot).length Q : Value) ∧ ownS encSlot ([] : List Slot) V Q s, fun f v s => v = (.slice aa K.1.length Z : Value) ∧ s = [], fun f v s => ∃ (u : Option Addr) (m : Nat), v = (.slice u D.length m : Value) ∧ ownS encSlot D u m s, fun f v s => ∃ (W : Option Addr) (S : Nat), v = (.slice W ([] : List Waiter).length S : Value) ∧ ownS encWaiter ([] : List Waiter) W S s, fun f v s => v = (pB y 1 : Value) ∧ s = [], fun f v s => v = (.slice J a.Waiting.length G : Value) ∧ s = [], fun f v s => ∃ (x : Option Addr) (n : Nat), v = (.slice x F.length n : Value) ∧ ownS encWaiter F x n s, fun f v s => v = (.agg #[(atPath (f 2) []), (atPath (f 6) [])] : Value) ∧ s = [], fun f v s => v = (iv K.2 : Value) ∧ s = [], fun f v s => v = undef ∧ s = [(c, .cells ⟨[(atPath (f 2) []), (atPath (f 6) [])]⟩ 85 (0, 0))]] : List ((Nat → Value) → Value → Seg → Prop)).getD i (fun _ _ _ => False)) (fun j f v => ∃ s, (fun i => ([fun f v s => ∃ (V : Option Addr) (Q : Nat), v = (.slice V ([] : List Slot).length Q : Value) ∧ ownS encSlot ([] : List Slot) V Q s, fun f v s => v = (.slice aa K.1.length Z : Value) ∧ s = [], fun f v s => ∃ (u : Option Addr) (m : Nat), v = (.slice u D.length m : Value) ∧ ownS encSlot D u m s, fun f v s => ∃ (W : Option Addr) (S : Nat), v = (.slice W ([] : List Waiter).length S : Value) ∧ ownS encWaiter ([] : List Waiter) W S s, fun f v s => v = (pB y 1 : Value) ∧ s = [], fun f v s => v = (.slice J a.Waiting.length G : Value) ∧ s = [], fun f v s => ∃ (x : Option Addr) (n : Nat), v = (.slice x F.length n : Value) ∧ ownS encWaiter F x n s, fun f v s => v = (.agg #[(atPath (f 2) []), (atPath (f 6) [])] : Value) ∧ s = [], fun f v s => v = (iv K.2 : Value) ∧ s = [], fun f v s => v = undef ∧ s = [(c, .cells ⟨[(atPath (f 2) []), (atPath (f 6) [])]⟩ 85 (0, 0))]] : List ((Nat → Value) → Value → Seg → Prop)).getD i (fun _ _ _ => False)) j f v s) [] [2, 6, 8, 9] [2, 6, 9] (fun _ _ _ s h => ⟨s, h⟩) (by kernel_rfl) (by kernel_rfl) bt (by kernel_rfl) (by kernel_rfl) (by kernel_rfl) (by kernel_rfl) (allOb_cons ?_ (allOb_cons ?_ (allOb_cons ?_ (allOb_cons ?_ (allOb_cons ?_ (allOb_cons ?_ (allOb_cons ?_ (allOb_cons ?_ (allOb_cons ?_ (allOb_cons ?_ allOb_nil)))))))))) ?_)
 ·intro I N
  intro R c9 bu
  exact wL (E := encSlot) ([] : List Slot) 0 [] 117 bu fun V Q cj da ak bv => WN (oE (.slice V ([] : List Slot).length Q) cj ⟨V, Q, rfl, ak⟩ (Mem.mid bv))
 ·intro I N
  intro R ct bw
  exact MW 1 (WN (oE (.slice aa K.1.length Z) [] ⟨by kernel_rfl, rfl⟩ bw))
 ·intro I N
  intro v0_ hb0_
  obtain ⟨V, Q, rfl, ak⟩ := hb0_
  intro v1_ hb1_
  obtain ⟨rfl, _⟩ := hb1_
  intro R db ar
  exact wA 24 [iv 0, iv 0, iv 0] 3 ar ak (cc.r ar 1) ca fun u m ck dc al bx => WN (oE (.slice u D.length m) ck ⟨u, m, rfl, al⟩ (Mem.takeOver bx))
 ·intro I N
  intro R dd bz
  exact wL (E := encWaiter) ([] : List Waiter) 0 [] 142 bz fun W S cl de am b0 => WN (oE (.slice W ([] : List Waiter).length S) cl ⟨W, S, rfl, am⟩ (Mem.mid b0))
 ·intro I N
  intro R cu b1
  exact MW 1 (WN (oE (pB y 1) [] ⟨by kernel_rfl, rfl⟩ b1))
 ·intro I N
  intro v4_ hb4_
  obtain ⟨rfl, _⟩ := hb4_
  intro R cv au
  exact wV (.slice J a.Waiting.length G) cv (eL false 1 1 (au.blk 0 rfl)) (WN (oE (.slice J a.Waiting.length G) [] ⟨by kernel_rfl, rfl⟩ au))
 ·intro I N
  intro v3_ hb3_
  obtain ⟨W, S, rfl, am⟩ := hb3_
  intro v5_ hb5_
  obtain ⟨rfl, _⟩ := hb5_
  intro R df av
  exact wA 16 [iv 0, iv 0] 3 av am (ay.mem0 av) cb fun x n cm dg an b2 => WN (oE (.slice x F.length n) cm ⟨x, n, rfl, an⟩ (Mem.takeOver b2))
 ·intro I N
  intro v2_ hb2_
  obtain ⟨_, u, m, rfl, _⟩ := hb2_
  intro v6_ hb6_
  obtain ⟨_, x, n, rfl, _⟩ := hb6_
  intro R cw b3
  exact MW 1 (WN (oE (.agg #[.slice u D.length m, .slice x F.length n]) [] ⟨by kernel_rfl, rfl⟩ b3))
 ·intro I N
  intro R cx b4
  exact MW 1 (WN (oE (iv K.2) [] ⟨by kernel_rfl, rfl⟩ b4))
 ·intro I N
  intro v2_ hb2_
  obtain ⟨_, u, m, rfl, _⟩ := hb2_
  intro v6_ hb6_
  obtain ⟨_, x, n, rfl, _⟩ := hb6_
  intro v7_ hb7_
  obtain ⟨hv7_, _⟩ := hb7_
  obtain rfl : v7_ = (.agg #[.slice u D.length m, .slice x F.length n] : Value) := hv7_.trans (by kernel_rfl)
  intro R dh b5
  exact wS true 2 0 (.agg #[.slice u D.length m, .slice x F.length n]) 2 [.slice u D.length m, .slice x F.length n] b5 rfl fun di b6 => WN (ob_none [(c, .cells ⟨[.slice u D.length m, .slice x F.length n]⟩ 85 (0, 0))] rfl ⟨rfl, by kernel_rfl⟩ b6)
 intro I N
 intro v2_ hb2_
 obtain ⟨u, m, rfl, al⟩ := hb2_
 intro v6_ hb6_
 obtain ⟨x, n, rfl, an⟩ := hb6_
 intro v8_ hb8_
 obtain ⟨rfl, _⟩ := hb8_
 intro v9_ hb9_
 obtain ⟨rfl, hs9_⟩ := hb9_
 replace hs9_ := hs9_.trans (show _ = [(c, .cells ⟨[.slice u D.length m, .slice x F.length n]⟩ 85 (0, 0))] by kernel_rfl)
 intro a9 b7
 have ae : Mem [] w a9 [[(y, .cells ⟨[.slice A a.Slots.length z, .slice J a.Waiting.length G]⟩ 85 (0, 0))], a5, (I 2), (I 6), (I 9)] := b7
 rw [hs9_] at ae
 refine wR 1 [(4, pB c 0), (5, iv K.2)] a9 (NC ?_)
 obtain rfl := HS hm
 exact N_ret [.agg #[.slice u D.length m, .slice x F.length n], iv K.2] (RX true 2 0 (ae.blk 4 rfl) (rC RVs_nil)) (⟨u, m, (I 2), x, n, (I 6), rfl, al, an, ae.pk [2, 3]⟩)
theorem c_s_l10Take (w : World) (d : Interface) (z : Option Addr) (u : Nat) (a3 : rdS Gx.encI w d.Stack z u) (A : Option Addr) (x : Nat) (a4 : rdS encSlot w d.Queue.Slots A x) (B : Option Addr) (y : Nat) (a5 : rdS encWaiter w d.Queue.Waiting B y) {r : Interface × Int} (hm : M.s_l10Take d = some r) :
  Calls Tryz.prog 133 #[.agg #[iv d.Mask, .slice z d.Stack.length u, .slice A d.Queue.Slots.length x, .slice B d.Queue.Waiting.length y]] w fun e w' => ∃ (a6 : Option Addr) (ay : Nat) (a9 : Seg), ∃ (a7 : Option Addr) (az : Nat) (ba : Seg), ∃ (a8 : Option Addr) (a0 : Nat) (bb : Seg), e = .returned (.tuple #[.agg #[iv r.1.Mask, .slice a6 r.1.Stack.length ay, .slice a7 r.1.Queue.Slots.length az, .slice a8 r.1.Queue.Waiting.length a0], iv r.2]) ∧ ownS Gx.encI r.1.Stack a6 ay a9 ∧ ownS encSlot r.1.Queue.Slots a7 az ba ∧ ownS encWaiter r.1.Queue.Waiting a8 a0 bb ∧ Mem [] w w' [a9, ba, bb] := by
 unfold M.s_l10Take at hm
 refine cE Tryz.func133 ?_
 have M0 := Mem.refl [] w
 refine QA (wN (.cells ⟨[iv d.Mask, .slice z d.Stack.length u, .slice A d.Queue.Slots.length x, .slice B d.Queue.Waiting.length y]⟩ 87 (0, 0)) M0 fun t c8 bi => wN (.cells ⟨[iv 0, .slice none 0 0, .slice none 0 0, .slice none 0 0]⟩ 87 (0, 0)) bi fun C ch bj => wR 1 [(1, pB t 0), (2, pB C 0)] ch (NE ?_))
 obtain ⟨V, cb, hm⟩ := gx_bind hm
 obtain ⟨W, cc, hm⟩ := gx_bind hm
 obtain ⟨c, cd, hm⟩ := gx_bind hm
 refine G_sub [(1, pB t 0), (2, pB C 0)] (by kernel_rfl) (G_dagL 13 [[], [0], [], [2], [], [4], [3, 5], [1, 6], [], [8], [8], [], [9, 11]] [[], [], [], [], [], [], [], [], [], [], [], [], [11]] [[], [], [], [], [], [], [], [], [], [], [], [], []] [[], [], [], [], [], [], [], [], [7], [7], [7], [], [7]] [[], [], [], [], [], [], [], [], [7], [7], [], [], [7, 11]] [[], [], [], [], [], [], [], [], [], [], [], [], []] (fun _ => []) (fun i => ([fun f v s => v = (pB t 2 : Value) ∧ s = [], fun f v s => v = (.agg #[.slice A d.Queue.Slots.length x, .slice B d.Queue.Waiting.length y] : Value) ∧ s = [], fun f v s => v = (pB t 0 : Value) ∧ s = [], fun f v s => v = (iv d.Mask : Value) ∧ s = [], fun f v s => v = (.agg #[iv d.Mask, .slice z d.Stack.length u, .slice A d.Queue.Slots.length x, .slice B d.Queue.Waiting.length y] : Value) ∧ s = [], fun f v s => v = (iv V : Value) ∧ s = [], fun f v s => v = (iv W : Value) ∧ s = [], fun f v s => ∃ (n : Option Addr) (l : Nat) (K : Seg), ∃ (q : Option Addr) (m : Nat) (L : Seg), v = (.tuple #[.agg #[.slice n c.1.Slots.length l, .slice q c.1.Waiting.length m], iv c.2] : Value) ∧ s = (K ++ L) ∧ ownS encSlot c.1.Slots n l K ∧ ownS encWaiter c.1.Waiting q m L, fun f v s => v = (.tuple #[.agg #[(atPath (f 7) [0, 0]), (atPath (f 7) [0, 1])], iv c.2] : Value) ∧ s = [], fun f v s => v = (.agg #[(atPath (f 7) [0, 0]), (atPath (f 7) [0, 1])] : Value) ∧ s = [], fun f v s => v = (iv c.2 : Value) ∧ s = [], fun f v s => ∃ (D : Nat), v = (pB D 0 : Value) ∧ s = [(D, .cells ⟨[.slice none 0 0, .slice none 0 0]⟩ 85 (0, 0))], fun f v s => v = undef ∧ s = [((blkOf (f 11)), .cells ⟨[(atPath (f 7) [0, 0]), (atPath (f 7) [0, 1])]⟩ 85 (0, 0))]] : List ((Nat → Value) → Value → Seg → Prop)).getD i (fun _ _ _ => False)) (fun j f v => ∃ s, (fun i => ([fun f v s => v = (pB t 2 : Value) ∧ s = [], fun f v s => v = (.agg #[.slice A d.Queue.Slots.length x, .slice B d.Queue.Waiting.length y] : Value) ∧ s = [], fun f v s => v = (pB t 0 : Value) ∧ s = [], fun f v s => v = (iv d.Mask : Value) ∧ s = [], fun f v s => v = (.agg #[iv d.Mask, .slice z d.Stack.length u, .slice A d.Queue.Slots.length x, .slice B d.Queue.Waiting.length y] : Value) ∧ s = [], fun f v s => v = (iv V : Value) ∧ s = [], fun f v s => v = (iv W : Value) ∧ s = [], fun f v s => ∃ (n : Option Addr) (l : Nat) (K : Seg), ∃ (q : Option Addr) (m : Nat) (L : Seg), v = (.tuple #[.agg #[.slice n c.1.Slots.length l, .slice q c.1.Waiting.length m], iv c.2] : Value) ∧ s = (K ++ L) ∧ ownS encSlot c.1.Slots n l K ∧ ownS encWaiter c.1.Waiting q m L, fun f v s => v = (.tuple #[.agg #[(atPath (f 7) [0, 0]), (atPath (f 7) [0, 1])], iv c.2] : Value) ∧ s = [], fun f v s => v = (.agg #[(atPath (f 7) [0, 0]), (atPath (f 7) [0, 1])] : Value) ∧ s = [], fun f v s => v = (iv c.2 : Value) ∧ s = [], fun f v s => ∃ (D : Nat), v = (pB D 0 : Value) ∧ s = [(D, .cells ⟨[.slice none 0 0, .slice none 0 0]⟩ 85 (0, 0))], fun f v s => v = undef ∧ s = [((blkOf (f 11)), .cells ⟨[(atPath (f 7) [0, 0]), (atPath (f 7) [0, 1])]⟩ 85 (0, 0))]] : List ((Nat → Value) → Value → Seg → Prop)).getD i (fun _ _ _ => False)) j f v s) [11] [7, 10, 12] [7, 12] (fun _ _ _ s h => ⟨s, h⟩) (by kernel_rfl) (by kernel_rfl) (bj.preNil 13) (by kernel_rfl) (by kernel_rfl) (by kernel_rfl) (by kernel_rfl) (allOb_cons ?_ (allOb_cons ?_ (allOb_cons ?_ (allOb_cons ?_ (allOb_cons ?_ (allOb_cons ?_ (allOb_cons ?_ (allOb_cons ?_ (allOb_cons ?_ (allOb_cons ?_ (allOb_cons ?_ (allOb_cons ?_ (allOb_cons ?_ allOb_nil))))))))))))) ?_)
 ·intro I J
  intro R ci bk
  exact MW 1 (WN (oE (pB t 2) [] ⟨by kernel_rfl, rfl⟩ bk))
 ·intro I J
  intro v0_ hb0_
  obtain ⟨rfl, _⟩ := hb0_
  intro R cj al
  exact wV (.agg #[.slice A d.Queue.Slots.length x, .slice B d.Queue.Waiting.length y]) cj (eL true 2 2 (al.blk 0 rfl)) (WN (oE (.agg #[.slice A d.Queue.Slots.length x, .slice B d.Queue.Waiting.length y]) [] ⟨by kernel_rfl, rfl⟩ al))
 ·intro I J
  intro R ck bl
  exact MW 1 (WN (oE (pB t 0) [] ⟨by kernel_rfl, rfl⟩ bl))
 ·intro I J
  intro v2_ hb2_
  obtain ⟨rfl, _⟩ := hb2_
  intro R cl am
  exact wV (iv d.Mask) cl (eL false 1 0 (am.blk 0 rfl)) (WN (oE (iv d.Mask) [] ⟨by kernel_rfl, rfl⟩ am))
 ·intro I J
  intro R cm an
  exact wV (.agg #[iv d.Mask, .slice z d.Stack.length u, .slice A d.Queue.Slots.length x, .slice B d.Queue.Waiting.length y]) cm (eL true 4 0 (an.blk 0 rfl)) (WN (oE (.agg #[iv d.Mask, .slice z d.Stack.length u, .slice A d.Queue.Slots.length x, .slice B d.Queue.Waiting.length y]) [] ⟨by kernel_rfl, rfl⟩ an))
 ·intro I J
  intro v4_ hb4_
  obtain ⟨rfl, _⟩ := hb4_
  intro R cn X
  refine WC ((c_s_l10Running cn d z u (a3.mem0 X) A x (a4.mem0 X) B y (a5.mem0 X) cb).mono ?_)
  rintro e_ c9 ⟨rfl, be⟩
  refine ⟨_, rfl, ?_⟩
  exact WN (oE (iv V) [] ⟨rfl, rfl⟩ (X.call0 be))
 ·intro I J
  intro v3_ hb3_
  obtain ⟨rfl, _⟩ := hb3_
  intro v5_ hb5_
  obtain ⟨rfl, _⟩ := hb5_
  intro R co bm
  refine WC ((c_s_l1Least co d.Mask V cc).mono ?_)
  rintro e_ da ⟨rfl, bf⟩
  refine ⟨_, rfl, ?_⟩
  exact WN (oE (iv W) [] ⟨rfl, rfl⟩ (bm.call0 bf))
 ·intro I J
  intro v1_ hb1_
  obtain ⟨rfl, _⟩ := hb1_
  intro v6_ hb6_
  obtain ⟨rfl, _⟩ := hb6_
  intro R cp ae
  refine WC ((c_s_l9Take cp d.Queue A x (a4.mem0 ae) B y (a5.mem0 ae) W cd).mono ?_)
  rintro e_ db ⟨n, l, K, q, m, L, rfl, ai, aj, bg⟩
  refine ⟨_, rfl, ?_⟩
  exact WN (oE (.tuple #[.agg #[.slice n c.1.Slots.length l, .slice q c.1.Waiting.length m], iv c.2]) (K ++ L) ⟨n, l, K, q, m, L, rfl, rfl, ai, aj⟩ (Mem.callMid ae (bg.permF (by simp))))
 ·intro I J
  intro v7_ hb7_
  obtain ⟨_, n, l, _, q, m, _, rfl, _⟩ := hb7_
  intro R cq bn
  exact MW 1 (WN (oE (.tuple #[.agg #[.slice n c.1.Slots.length l, .slice q c.1.Waiting.length m], iv c.2]) [] ⟨by kernel_rfl, rfl⟩ bn))
 ·intro I J
  intro v7_ hb7_
  obtain ⟨_, n, l, _, q, m, _, rfl, _⟩ := hb7_
  intro v8_ hb8_
  obtain ⟨hv8_, _⟩ := hb8_
  obtain rfl : v8_ = (.tuple #[.agg #[.slice n c.1.Slots.length l, .slice q c.1.Waiting.length m], iv c.2] : Value) := hv8_.trans (by kernel_rfl)
  intro R cr bo
  exact MW 1 (WN (oE (.agg #[.slice n c.1.Slots.length l, .slice q c.1.Waiting.length m]) [] ⟨by kernel_rfl, rfl⟩ bo))
 ·intro I J
  intro v7_ hb7_
  obtain ⟨_, n, l, _, q, m, _, rfl, _⟩ := hb7_
  intro v8_ hb8_
  obtain ⟨hv8_, _⟩ := hb8_
  obtain rfl : v8_ = (.tuple #[.agg #[.slice n c.1.Slots.length l, .slice q c.1.Waiting.length m], iv c.2] : Value) := hv8_.trans (by kernel_rfl)
  intro R ct bp
  exact MW 1 (WN (oE (iv c.2) [] ⟨by kernel_rfl, rfl⟩ bp))
 ·intro I J
  intro R dc bq
  exact wN (.cells ⟨[.slice none 0 0, .slice none 0 0]⟩ 85 (0, 0)) bq fun D dd br => WN (oE (pB D 0) [(D, .cells ⟨[.slice none 0 0, .slice none 0 0]⟩ 85 (0, 0))] ⟨D, rfl, rfl⟩ (Mem.mid br))
 ·intro I J
  intro v7_ hb7_
  obtain ⟨_, n, l, _, q, m, _, rfl, _⟩ := hb7_
  intro v9_ hb9_
  obtain ⟨hv9_, _⟩ := hb9_
  obtain rfl : v9_ = (.agg #[.slice n c.1.Slots.length l, .slice q c.1.Waiting.length m] : Value) := hv9_.trans (by kernel_rfl)
  intro v11_ hb11_
  obtain ⟨D, rfl, hs11_⟩ := hb11_
  intro R bc bs
  have Y : Mem [] w bc ([[(t, .cells ⟨[iv d.Mask, .slice z d.Stack.length u, .slice A d.Queue.Slots.length x, .slice B d.Queue.Waiting.length y]⟩ 87 (0, 0))], [(C, .cells ⟨[iv 0, .slice none 0 0, .slice none 0 0, .slice none 0 0]⟩ 87 (0, 0))]] ++ ([[]] ++ ([(I 11)] ++ ([] ++ R)))) := bs
  rw [hs11_] at Y
  replace Y : Mem [] w bc ([[(t, .cells ⟨[iv d.Mask, .slice z d.Stack.length u, .slice A d.Queue.Slots.length x, .slice B d.Queue.Waiting.length y]⟩ 87 (0, 0))], [(C, .cells ⟨[iv 0, .slice none 0 0, .slice none 0 0, .slice none 0 0]⟩ 87 (0, 0))]] ++ ([[]] ++ ([[(D, .cells ⟨[.slice none 0 0, .slice none 0 0]⟩ 85 (0, 0))]] ++ ([] ++ R)))) := Y.permF (by simp)
  exact wS true 2 0 (.agg #[.slice n c.1.Slots.length l, .slice q c.1.Waiting.length m]) 3 [.slice n c.1.Slots.length l, .slice q c.1.Waiting.length m] Y rfl fun de bt => WN (ob_none [(D, .cells ⟨[.slice n c.1.Slots.length l, .slice q c.1.Waiting.length m]⟩ 85 (0, 0))] rfl ⟨rfl, by kernel_rfl⟩ (Mem.takeOver bt))
 intro I J
 intro v11_ hb11_
 obtain ⟨_, D, rfl, hs11_⟩ := hb11_
 intro v7_ hb7_
 obtain ⟨n, l, K, q, m, L, rfl, hs7_, ai, aj⟩ := hb7_
 intro v10_ hb10_
 obtain ⟨rfl, _⟩ := hb10_
 intro v12_ hb12_
 obtain ⟨rfl, hs12_⟩ := hb12_
 replace hs12_ := hs12_.trans (show _ = [(D, .cells ⟨[.slice n c.1.Slots.length l, .slice q c.1.Waiting.length m]⟩ 85 (0, 0))] by kernel_rfl)
 intro ak bu
 have U : Mem [] w ak [[(t, .cells ⟨[iv d.Mask, .slice z d.Stack.length u, .slice A d.Queue.Slots.length x, .slice B d.Queue.Waiting.length y]⟩ 87 (0, 0))], [(C, .cells ⟨[iv 0, .slice none 0 0, .slice none 0 0, .slice none 0 0]⟩ 87 (0, 0))], (I 7), (I 12)] := bu
 rw [hs7_] at U
 rw [hs12_] at U
 replace U : Mem [] w ak [[(t, .cells ⟨[iv d.Mask, .slice z d.Stack.length u, .slice A d.Queue.Slots.length x, .slice B d.Queue.Waiting.length y]⟩ 87 (0, 0))], [(C, .cells ⟨[iv 0, .slice none 0 0, .slice none 0 0, .slice none 0 0]⟩ 87 (0, 0))], K, L, [(D, .cells ⟨[.slice n c.1.Slots.length l, .slice q c.1.Waiting.length m]⟩ 85 (0, 0))]] := U.permF (by simp)
 refine wR 1 [(1, pB t 0), (2, pB C 0), (4, pB D 0), (5, iv c.2)] ak (NE ?_)
 obtain ⟨P, ce, hm⟩ := gx_bind hm
 refine G_sub [(1, pB t 0), (2, pB C 0), (4, pB D 0), (5, iv c.2)] (by kernel_rfl) (G_dagL 8 [[], [0], [], [2], [3], [], [1, 5], []] [[], [], [], [], [], [], [], []] [[], [], [], [], [], [], [], []] [[], [], [], [], [], [], [4], []] [[], [], [], [], [], [], [4], []] [[], [], [], [], [], [], [], []] (fun _ => []) (fun i => ([fun f v s => v = (pB t 0 : Value) ∧ s = [], fun f v s => v = (iv d.Mask : Value) ∧ s = [], fun f v s => v = (pB t 1 : Value) ∧ s = [], fun f v s => v = (.slice z d.Stack.length u : Value) ∧ s = [], fun f v s => ∃ (H : Option Addr) (G : Nat), v = (.slice H P.length G : Value) ∧ ownS Gx.encI P H G s, fun f v s => v = (.agg #[.slice n c.1.Slots.length l, .slice q c.1.Waiting.length m] : Value) ∧ s = [], fun f v s => v = (.agg #[iv d.Mask, (atPath (f 4) []), .slice n c.1.Slots.length l, .slice q c.1.Waiting.length m] : Value) ∧ s = [], fun f v s => ∃ (F : Nat), v = (pB F 0 : Value) ∧ s = [(F, .cells ⟨[iv 0, .slice none 0 0, .slice none 0 0, .slice none 0 0]⟩ 87 (0, 0))]] : List ((Nat → Value) → Value → Seg → Prop)).getD i (fun _ _ _ => False)) (fun j f v => ∃ s, (fun i => ([fun f v s => v = (pB t 0 : Value) ∧ s = [], fun f v s => v = (iv d.Mask : Value) ∧ s = [], fun f v s => v = (pB t 1 : Value) ∧ s = [], fun f v s => v = (.slice z d.Stack.length u : Value) ∧ s = [], fun f v s => ∃ (H : Option Addr) (G : Nat), v = (.slice H P.length G : Value) ∧ ownS Gx.encI P H G s, fun f v s => v = (.agg #[.slice n c.1.Slots.length l, .slice q c.1.Waiting.length m] : Value) ∧ s = [], fun f v s => v = (.agg #[iv d.Mask, (atPath (f 4) []), .slice n c.1.Slots.length l, .slice q c.1.Waiting.length m] : Value) ∧ s = [], fun f v s => ∃ (F : Nat), v = (pB F 0 : Value) ∧ s = [(F, .cells ⟨[iv 0, .slice none 0 0, .slice none 0 0, .slice none 0 0]⟩ 87 (0, 0))]] : List ((Nat → Value) → Value → Seg → Prop)).getD i (fun _ _ _ => False)) j f v s) [] [4, 6, 7] [4, 7] (fun _ _ _ s h => ⟨s, h⟩) (by kernel_rfl) (by kernel_rfl) (U.preNil 8) (by kernel_rfl) (by kernel_rfl) (by kernel_rfl) (by kernel_rfl) (allOb_cons ?_ (allOb_cons ?_ (allOb_cons ?_ (allOb_cons ?_ (allOb_cons ?_ (allOb_cons ?_ (allOb_cons ?_ (allOb_cons ?_ allOb_nil)))))))) ?_)
 ·intro Q T
  intro R cu bv
  exact MW 1 (WN (oE (pB t 0) [] ⟨by kernel_rfl, rfl⟩ bv))
 ·intro Q T
  intro v0_ hb0_
  obtain ⟨rfl, _⟩ := hb0_
  intro R cv ao
  exact wV (iv d.Mask) cv (eL false 1 0 (ao.blk 0 rfl)) (WN (oE (iv d.Mask) [] ⟨by kernel_rfl, rfl⟩ ao))
 ·intro Q T
  intro R cw bw
  exact MW 1 (WN (oE (pB t 1) [] ⟨by kernel_rfl, rfl⟩ bw))
 ·intro Q T
  intro v2_ hb2_
  obtain ⟨rfl, _⟩ := hb2_
  intro R cx ap
  exact wV (.slice z d.Stack.length u) cx (eL false 1 1 (ap.blk 0 rfl)) (WN (oE (.slice z d.Stack.length u) [] ⟨by kernel_rfl, rfl⟩ ap))
 ·intro Q T
  intro v3_ hb3_
  obtain ⟨rfl, _⟩ := hb3_
  intro R cy aq
  refine WC ((c_s_l1Own cy d.Stack z u (a3.mem0 aq) ce).mono ?_)
  rintro e_ df ⟨H, G, cf, rfl, aa, bh⟩
  refine ⟨_, rfl, ?_⟩
  exact WN (oE (.slice H P.length G) cf ⟨H, G, rfl, aa⟩ (Mem.callMid aq bh))
 ·intro Q T
  intro R cz ar
  exact wV (.agg #[.slice n c.1.Slots.length l, .slice q c.1.Waiting.length m]) cz (eL true 2 0 (ar.blk 4 rfl)) (WN (oE (.agg #[.slice n c.1.Slots.length l, .slice q c.1.Waiting.length m]) [] ⟨by kernel_rfl, rfl⟩ ar))
 ·intro Q T
  intro v4_ hb4_
  obtain ⟨_, H, G, rfl, _⟩ := hb4_
  intro v1_ hb1_
  obtain ⟨rfl, _⟩ := hb1_
  intro v5_ hb5_
  obtain ⟨rfl, _⟩ := hb5_
  intro R c0 bx
  exact MW 1 (WN (oE (.agg #[iv d.Mask, .slice H P.length G, .slice n c.1.Slots.length l, .slice q c.1.Waiting.length m]) [] ⟨by kernel_rfl, rfl⟩ bx))
 ·intro Q T
  intro R dg bz
  exact wN (.cells ⟨[iv 0, .slice none 0 0, .slice none 0 0, .slice none 0 0]⟩ 87 (0, 0)) bz fun F dh b0 => WN (oE (pB F 0) [(F, .cells ⟨[iv 0, .slice none 0 0, .slice none 0 0, .slice none 0 0]⟩ 87 (0, 0))] ⟨F, rfl, rfl⟩ (Mem.mid b0))
 intro Q T
 intro v4_ hb4_
 obtain ⟨H, G, rfl, aa⟩ := hb4_
 intro v6_ hb6_
 obtain ⟨hv6_, _⟩ := hb6_
 obtain rfl : v6_ = (.agg #[iv d.Mask, .slice H P.length G, .slice n c.1.Slots.length l, .slice q c.1.Waiting.length m] : Value) := hv6_.trans (by kernel_rfl)
 intro v7_ hb7_
 obtain ⟨F, rfl, hs7_⟩ := hb7_
 intro c1 b1
 have au : Mem [] w c1 [[(t, .cells ⟨[iv d.Mask, .slice z d.Stack.length u, .slice A d.Queue.Slots.length x, .slice B d.Queue.Waiting.length y]⟩ 87 (0, 0))], [(C, .cells ⟨[iv 0, .slice none 0 0, .slice none 0 0, .slice none 0 0]⟩ 87 (0, 0))], K, L, [(D, .cells ⟨[.slice n c.1.Slots.length l, .slice q c.1.Waiting.length m]⟩ 85 (0, 0))], (Q 4), (Q 7)] := b1
 rw [hs7_] at au
 refine wS true 4 0 (.agg #[iv d.Mask, .slice H P.length G, .slice n c.1.Slots.length l, .slice q c.1.Waiting.length m]) 6 [iv d.Mask, .slice H P.length G, .slice n c.1.Slots.length l, .slice q c.1.Waiting.length m] au rfl fun ad af => NB (wR 2 [(2, pB C 0), (5, iv c.2), (6, pB F 0), (26, .bool (decide (c.2 ≥ 0)))] ad (NO ?_))
 obtain ⟨S, b7, b6⟩ := gx_bind hm
 refine G_meet (fun a w' => ∃ (O : Option Addr), ∃ (N : Nat), ∃ (ac : Seg), ownS Gx.encI S O N ac ∧ Mem [] w w' [[(C, .cells ⟨[iv 0, .slice none 0 0, .slice none 0 0, .slice none 0 0]⟩ 87 (0, 0))], K, L, [(F, .cells ⟨[iv d.Mask, .slice O S.length N, .slice n c.1.Slots.length l, .slice q c.1.Waiting.length m]⟩ 87 (0, 0))], ac] ∧ Sat Tryz.f133.ntmps [(2, pB C 0), (5, iv c.2), (6, pB F 0)] a) ?_ ?_
 ·have hm := b7
  rcases gx_bif hm with ⟨ah, hm⟩ | ⟨ah, hm⟩
  ·refine gT ah (GR (MW 1 (wV (.slice H P.length G) ad (eL false 1 1 (af.blk 6 rfl)) (wR 1 [(2, pB C 0), (5, iv c.2), (6, pB F 0), (28, .slice H P.length G), (29, iv c.2)] ad (wL (E := Gx.encI) [c.2] 1 [iv c.2] 3 af ?_)))))
   intro c6 c5 c7 di b9 av
   obtain ⟨ag, b5, hm⟩ := gx_bind hm
   refine wA 8 [iv 0] 5 av aa (b9.r av 7) b5 fun ab Z cg c2 ca b2 => wR 1 [(2, pB C 0), (5, iv c.2), (6, pB F 0), (31, .slice ab ag.length Z), (32, pB F 1)] c2 (wS false 1 1 (.slice ab ag.length Z) 6 [iv d.Mask, .slice ab ag.length Z, .slice n c.1.Slots.length l, .slice q c.1.Waiting.length m] b2 rfl fun dj b3 => WN ?_)
   obtain rfl := HS hm
   exact N_meet fun a ha => ⟨ab, Z, cg, ca, b3.pk [1, 2, 3, 6, 5], ha.s⟩
  refine gF ah (GK ?_)
  obtain rfl := HS hm
  exact N_meet fun a ha => ⟨H, G, (Q 4), aa, af.pk [1, 2, 3, 6, 5], ha.s⟩
 intro c4 bd ⟨O, N, ac, b8, aw, b4⟩
 refine N_use b4 ?_
 have hm := b6
 refine NF (wV (.agg #[iv d.Mask, .slice O S.length N, .slice n c.1.Slots.length l, .slice q c.1.Waiting.length m]) bd (eL true 4 0 (aw.blk 3 rfl)) (wR 1 [(2, pB C 0), (33, .agg #[iv d.Mask, .slice O S.length N, .slice n c.1.Slots.length l, .slice q c.1.Waiting.length m]), (34, iv c.2)] bd (wS true 4 0 (.agg #[iv d.Mask, .slice O S.length N, .slice n c.1.Slots.length l, .slice q c.1.Waiting.length m]) 0 [iv d.Mask, .slice O S.length N, .slice n c.1.Slots.length l, .slice q c.1.Waiting.length m] aw rfl fun c3 ax => wR 1 [(2, pB C 0), (3, iv c.2)] c3 (NC ?_))))
 obtain rfl := HS hm
 exact N_ret [.agg #[iv d.Mask, .slice O S.length N, .slice n c.1.Slots.length l, .slice q c.1.Waiting.length m], iv c.2] (RX true 4 0 (ax.blk 0 rfl) (rC RVs_nil)) (⟨O, N, ac, n, l, K, q, m, L, rfl, b8, ai, aj, ax.pk [4, 1, 2]⟩)
theorem c_s_l8End (w : World) (d : List Slot) (b : Option Addr) (f : Nat) (h : rdS encSlot w d b f) (l : Int) {r : (List Slot) × Bool} (hm : M.s_l8End d l = some r) :
  Calls Tryz.prog 227 #[.slice b d.length f, iv l] w fun e w' => ∃ (I : Option Addr) (G : Nat) (L : Seg), e = .returned (.tuple #[.slice I r.1.length G, .bool r.2]) ∧ ownS encSlot r.1 I G L ∧ Mem [] w w' [L] := by
 unfold M.s_l8End at hm
 refine cE Tryz.func227 ?_
 have M0 := Mem.refl [] w
 refine QA (MW 2 (NA (wR 2 [(0, .slice b d.length f), (8, .slice b d.length f), (9, iv l)] w ?_)))
 obtain ⟨c, ad, hm⟩ := gx_bind hm
 refine WD (c_s_l8Find w d b f (h.mem0 M0) l ad) M0 fun k m => wR 1 [(0, .slice b d.length f), (6, iv c)] k (NE (GS ?_))
 obtain ⟨ag, Z, Y⟩ := gx_bind hm
 refine G_meet (fun a w' => Mem [] w w' [] ∧ Sat Tryz.f227.ntmps [(0, .slice b d.length f), (6, iv c), (20, .bool ag)] a) ?_ ?_
 ·have hm := Z
  refine GR (wR 3 [(0, .slice b d.length f), (6, iv c), (13, .bool (decide (c < 0)))] k ?_)
  rcases gx_bif hm with ⟨v, hm⟩ | ⟨v, hm⟩
  ·refine wK 13 true v (wR 7 [(0, .slice b d.length f), (6, iv c), (20, .bool true)] k (WN ?_))
   obtain rfl := HS hm
   exact N_meet fun a ha => ⟨m.pk [], ha.s⟩
  refine wK 13 false v (wR 2 [(0, .slice b d.length f), (6, iv c), (13, .bool false), (14, .slice b d.length f), (15, iv c)] k ?_)
  obtain ⟨N, z, hm⟩ := gx_bind hm
  refine wV (elemP b (c.toNat * 3)) k (eI (h.mem0 m) rfl z) (wV (elemP b (c.toNat * 3 + 0)) k (eF 0 (c.toNat * 3) 0 (h.mem0 m) z) (wV (iv N.State) k (eE false 1 0 (c.toNat * 3 + 0) (h.mem0 m) z) (wR 2 [(0, .slice b d.length f), (6, iv c), (20, .bool (N.State == 1))] k (WN ?_))))
  obtain rfl := HS hm
  exact N_meet fun a ha => ⟨m.pk [], ha.s⟩
 intro ao i ⟨j, X⟩
 refine N_use X ?_
 have hm := Y
 refine TN ?_
 rcases gx_bif hm with ⟨x, hm⟩ | ⟨x, hm⟩
 ·refine gT x (QA (wL (E := encSlot) ([] : List Slot) 0 [] 117 j fun B q ah ak aa S => wR 2 [(4, .slice B ([] : List Slot).length q), (5, .bool false)] ak (ND ?_)))
  cases hm
  exact RA [.slice B ([] : List Slot).length q, .bool false] (⟨B, q, ah, rfl, aa, S.pk [0]⟩)
 refine gF x (KB (wR 2 [(0, .slice b d.length f), (6, iv c), (22, .slice b d.length f), (23, iv c)] i ?_))
 obtain ⟨O, A, hm⟩ := gx_bind hm
 refine wV (elemP b (c.toNat * 3)) i (eI (h.mem0 j) rfl A) (wV (elemP b (c.toNat * 3 + 0)) i (eF 0 (c.toNat * 3) 0 (h.mem0 j) A) (wV (iv O.State) i (eE false 1 0 (c.toNat * 3 + 0) (h.mem0 j) A) (wR 1 [(0, .slice b d.length f), (6, iv c), (27, .bool (O.State == 2))] i (NO ?_))))
 rcases gx_bif hm with ⟨y, hm⟩ | ⟨y, hm⟩
 ·refine gT y (QA (wR 3 [(28, .slice b d.length f), (29, iv c), (30, .agg #[iv 0, iv 0, iv 0])] i ?_))
  obtain ⟨J, ae, hm⟩ := gx_bind hm
  refine WC ((c_s_l8With i d b f (h.mem0 j) c (⟨0, 0, 0⟩ : Slot) ae).mono ?_)
  rintro e_ al ⟨C, t, ai, rfl, ab, Q⟩
  have T := j.call Q
  refine ⟨_, rfl, ?_⟩
  refine wR 2 [(4, .slice C J.length t), (5, .bool true)] al (ND ?_)
  cases hm
  exact RA [.slice C J.length t, .bool true] (⟨C, t, ai, rfl, ab, T.pk [0]⟩)
 refine gF y (KA (wR 2 [(0, .slice b d.length f), (6, iv c), (32, .slice b d.length f), (33, iv c)] i ?_))
 obtain ⟨g, H, hm⟩ := gx_bind hm
 refine wV (elemP b (c.toNat * 3)) i (eI (h.mem0 j) rfl H) (wV (.agg #[iv g.State, iv g.Irq, iv g.Priority]) i (eE true 3 0 (c.toNat * 3) (h.mem0 j) H) (wN (.cells ⟨[iv 0, iv 0, iv 0]⟩ 117 (0, 0)) j fun o ap U => wS true 3 0 (.agg #[iv g.State, iv g.Irq, iv g.Priority]) 0 [iv g.State, iv g.Irq, iv g.Priority] U rfl fun am V => NA (wR 1 [(0, .slice b d.length f), (6, iv c), (7, pB o 0), (36, pB o 0)] am (wS false 1 0 (iv 1) 0 [iv 1, iv g.Irq, iv g.Priority] V rfl fun F n => NA (wR 2 [(7, pB o 0), (37, .slice b d.length f), (38, iv c)] F (wV (.agg #[iv 1, iv g.Irq, iv g.Priority]) F (eL true 3 0 (n.blk 0 rfl)) ?_))))))
 obtain ⟨K, af, hm⟩ := gx_bind hm
 refine WC ((c_s_l8With F d b f (h.mem0 n) c (⟨1, g.Irq, g.Priority⟩ : Slot) af).mono ?_)
 rintro e_ an ⟨D, u, aj, rfl, ac, R⟩
 have W := n.call R
 refine ⟨_, rfl, ?_⟩
 refine wR 2 [(4, .slice D K.length u), (5, .bool true)] an (NC ?_)
 cases hm
 exact RA [.slice D K.length u, .bool true] (⟨D, u, aj, rfl, ac, W.pk [1]⟩)
theorem c_s_l9End (w : World) (a : Queue) (n : Option Addr) (i : Nat) (S : rdS encSlot w a.Slots n i) (q : Option Addr) (j : Nat) (T : rdS encWaiter w a.Waiting q j) (y : Int) {r : Queue × Bool} (hm : M.s_l9End a y = some r) :
  Calls Tryz.prog 176 #[.agg #[.slice n a.Slots.length i, .slice q a.Waiting.length j], iv y] w fun e w' => ∃ (J : Option Addr) (H : Nat) (L : Seg), ∃ (K : Option Addr) (I : Nat) (N : Seg), e = .returned (.tuple #[.agg #[.slice J r.1.Slots.length H, .slice K r.1.Waiting.length I], .bool r.2]) ∧ ownS encSlot r.1.Slots J H L ∧ ownS encWaiter r.1.Waiting K I N ∧ Mem [] w w' [L, N] := by
 unfold M.s_l9End at hm
 refine cE Tryz.func176 ?_
 have M0 := Mem.refl [] w
 refine QA (wN (.cells ⟨[.slice n a.Slots.length i, .slice q a.Waiting.length j]⟩ 85 (0, 0)) M0 fun h ae Q => wN (.cells ⟨[.slice none 0 0, .slice none 0 0]⟩ 85 (0, 0)) Q fun c C D => MW 1 (NA (MW 1 (wV (.slice n a.Slots.length i) C (eL false 1 0 (D.blk 0 rfl)) (wR 1 [(2, pB h 0), (4, pB c 0), (10, .slice n a.Slots.length i), (11, iv y)] C ?_)))))
 obtain ⟨f, X, hm⟩ := gx_bind hm
 refine WC ((c_s_l8End C a.Slots n i (S.mem0 D) y X).mono ?_)
 rintro e_ x ⟨A, z, ad, rfl, U, O⟩
 have B := D.call O
 refine ⟨_, rfl, ?_⟩
 refine MW 5 (NB (wR 2 [(2, pB h 0), (4, pB c 0), (6, .slice A f.1.length z), (16, .bool (!f.2))] x (NO ?_)))
 rcases gx_bif hm with ⟨E, hm⟩ | ⟨E, hm⟩
 ·refine gT E (QA (wR 1 [(4, pB c 0), (17, .agg #[.slice none 0 0, .slice none 0 0])] x (wS true 2 0 (.agg #[.slice none 0 0, .slice none 0 0]) 1 [.slice none 0 0, .slice none 0 0] B rfl fun ab F => wR 1 [(4, pB c 0), (5, .bool false)] ab (ND ?_))))
  obtain rfl := HS hm
  exact N_ret [.agg #[.slice none 0 0, .slice none 0 0], .bool false] (RX true 2 0 (F.blk 1 rfl) (rC RVs_nil)) (⟨none, 0, [], none, 0, [], rfl, ownS_nil, ownS_nil, F.pk [100000, 100001]⟩)
 refine gF E (KA (MW 2 (wV (.slice q a.Waiting.length j) x (eL false 1 1 (B.blk 0 rfl)) (wR 1 [(4, pB c 0), (21, .agg #[.slice A f.1.length z, .slice q a.Waiting.length j])] x ?_))))
 obtain ⟨d, Y, hm⟩ := gx_bind hm
 refine WC ((c_s_l9Settle x (⟨f.1, a.Waiting⟩ : Queue) A z (U.r B 2) q j (T.mem0 B) Y).mono ?_)
 rintro e_ af ⟨t, l, Z, u, m, aa, rfl, V, W, P⟩
 have R := B.call P
 refine ⟨_, rfl, ?_⟩
 refine wS true 2 0 (.agg #[.slice t d.Slots.length l, .slice u d.Waiting.length m]) 1 [.slice t d.Slots.length l, .slice u d.Waiting.length m] R rfl fun ac G => wR 1 [(4, pB c 0), (5, .bool true)] ac (NC ?_)
 obtain rfl := HS hm
 exact N_ret [.agg #[.slice t d.Slots.length l, .slice u d.Waiting.length m], .bool true] (RX true 2 0 (G.blk 1 rfl) (rC RVs_nil)) (⟨t, l, Z, u, m, aa, rfl, V, W, G.pk [3, 4]⟩)
theorem c_s_l10Leave (w : World) (a : Interface) (q : Option Addr) (t : Nat) (O : rdS Gx.encI w a.Stack q t) (F : Option Addr) (C : Nat) (b0 : rdS encSlot w a.Queue.Slots F C) (G : Option Addr) (D : Nat) (b1 : rdS encWaiter w a.Queue.Waiting G D) {r : Interface × Int} (hm : M.s_l10Leave a = some r) :
  Calls Tryz.prog 134 #[.agg #[iv a.Mask, .slice q a.Stack.length t, .slice F a.Queue.Slots.length C, .slice G a.Queue.Waiting.length D]] w fun e w' => ∃ (ay : Option Addr) (aq : Nat) (a3 : Seg), ∃ (az : Option Addr) (ar : Nat) (a4 : Seg), ∃ (a0 : Option Addr) (au : Nat) (a5 : Seg), e = .returned (.tuple #[.agg #[iv r.1.Mask, .slice ay r.1.Stack.length aq, .slice az r.1.Queue.Slots.length ar, .slice a0 r.1.Queue.Waiting.length au], iv r.2]) ∧ ownS Gx.encI r.1.Stack ay aq a3 ∧ ownS encSlot r.1.Queue.Slots az ar a4 ∧ ownS encWaiter r.1.Queue.Waiting a0 au a5 ∧ Mem [] w w' [a3, a4, a5] := by
 unfold M.s_l10Leave at hm
 refine cE Tryz.func134 ?_
 have M0 := Mem.refl [] w
 refine QA (wN (.cells ⟨[iv a.Mask, .slice q a.Stack.length t, .slice F a.Queue.Slots.length C, .slice G a.Queue.Waiting.length D]⟩ 87 (0, 0)) M0 fun u c0 ba => wN (.cells ⟨[iv 0, .slice none 0 0, .slice none 0 0, .slice none 0 0]⟩ 87 (0, 0)) ba fun z P V => MW 1 (NA (MW 1 (wV (.slice q a.Stack.length t) P (eL false 1 1 (V.blk 0 rfl)) (MW 2 (NB (wR 2 [(1, pB u 0), (2, pB z 0), (4, iv (a.Stack.length : Int)), (11, .bool ((a.Stack.length : Int) == 0))] P (NO ?_))))))))
 rcases gx_bif hm with ⟨aa, hm⟩ | ⟨aa, hm⟩
 ·refine gT aa (QA (wV (.agg #[iv a.Mask, .slice q a.Stack.length t, .slice F a.Queue.Slots.length C, .slice G a.Queue.Waiting.length D]) P (eL true 4 0 (V.blk 0 rfl)) (wS true 4 0 (.agg #[iv a.Mask, .slice q a.Stack.length t, .slice F a.Queue.Slots.length C, .slice G a.Queue.Waiting.length D]) 1 [iv a.Mask, .slice q a.Stack.length t, .slice F a.Queue.Slots.length C, .slice G a.Queue.Waiting.length D] V rfl fun b5 cz => wR 1 [(2, pB z 0), (3, iv (-1))] b5 (ND ?_))))
  cases hm
 refine gF aa (GK (TN (GS ?_)))
 obtain ⟨Q, av, hm⟩ := gx_bind hm
 obtain ⟨c, b2, hm⟩ := gx_bind hm
 refine G_sub [(1, pB u 0), (2, pB z 0), (4, iv (a.Stack.length : Int)), (11, .bool ((a.Stack.length : Int) == 0))] (by kernel_rfl) (G_dagL 14 [[], [0], [], [2], [], [4], [3, 5], [6], [1, 7], [], [9], [9], [], [10, 12]] [[], [], [], [], [], [], [], [], [], [], [], [], [], [12]] [[], [], [], [], [], [], [], [], [], [], [], [], [], []] [[], [], [], [], [], [], [], [], [], [8], [8], [8], [], [8]] [[], [], [], [], [], [], [], [], [], [8], [8], [], [], [8, 12]] [[], [], [], [], [], [], [], [], [], [], [], [], [], []] (fun _ => []) (fun i => ([fun f v s => v = (pB u 2 : Value) ∧ s = [], fun f v s => v = (.agg #[.slice F a.Queue.Slots.length C, .slice G a.Queue.Waiting.length D] : Value) ∧ s = [], fun f v s => v = (pB u 1 : Value) ∧ s = [], fun f v s => v = (.slice q a.Stack.length t : Value) ∧ s = [], fun f v s => v = (iv (a.Stack.length : Int) : Value) ∧ s = [], fun f v s => v = (iv (w64 ((a.Stack.length : Int) - 1)) : Value) ∧ s = [], fun f v s => v = (elemP q ((w64 ((a.Stack.length : Int) - 1)).toNat * 1) : Value) ∧ s = [], fun f v s => v = (iv Q : Value) ∧ s = [], fun f v s => ∃ (m : Option Addr) (d : Nat) (L : Seg), ∃ (n : Option Addr) (l : Nat) (N : Seg), v = (.tuple #[.agg #[.slice m c.1.Slots.length d, .slice n c.1.Waiting.length l], .bool c.2] : Value) ∧ s = (L ++ N) ∧ ownS encSlot c.1.Slots m d L ∧ ownS encWaiter c.1.Waiting n l N, fun f v s => v = (.tuple #[.agg #[(atPath (f 8) [0, 0]), (atPath (f 8) [0, 1])], .bool c.2] : Value) ∧ s = [], fun f v s => v = (.agg #[(atPath (f 8) [0, 0]), (atPath (f 8) [0, 1])] : Value) ∧ s = [], fun f v s => v = (.bool c.2 : Value) ∧ s = [], fun f v s => ∃ (B : Nat), v = (pB B 0 : Value) ∧ s = [(B, .cells ⟨[.slice none 0 0, .slice none 0 0]⟩ 85 (0, 0))], fun f v s => v = undef ∧ s = [((blkOf (f 12)), .cells ⟨[(atPath (f 8) [0, 0]), (atPath (f 8) [0, 1])]⟩ 85 (0, 0))]] : List ((Nat → Value) → Value → Seg → Prop)).getD i (fun _ _ _ => False)) (fun j f v => ∃ s, (fun i => ([fun f v s => v = (pB u 2 : Value) ∧ s = [], fun f v s => v = (.agg #[.slice F a.Queue.Slots.length C, .slice G a.Queue.Waiting.length D] : Value) ∧ s = [], fun f v s => v = (pB u 1 : Value) ∧ s = [], fun f v s => v = (.slice q a.Stack.length t : Value) ∧ s = [], fun f v s => v = (iv (a.Stack.length : Int) : Value) ∧ s = [], fun f v s => v = (iv (w64 ((a.Stack.length : Int) - 1)) : Value) ∧ s = [], fun f v s => v = (elemP q ((w64 ((a.Stack.length : Int) - 1)).toNat * 1) : Value) ∧ s = [], fun f v s => v = (iv Q : Value) ∧ s = [], fun f v s => ∃ (m : Option Addr) (d : Nat) (L : Seg), ∃ (n : Option Addr) (l : Nat) (N : Seg), v = (.tuple #[.agg #[.slice m c.1.Slots.length d, .slice n c.1.Waiting.length l], .bool c.2] : Value) ∧ s = (L ++ N) ∧ ownS encSlot c.1.Slots m d L ∧ ownS encWaiter c.1.Waiting n l N, fun f v s => v = (.tuple #[.agg #[(atPath (f 8) [0, 0]), (atPath (f 8) [0, 1])], .bool c.2] : Value) ∧ s = [], fun f v s => v = (.agg #[(atPath (f 8) [0, 0]), (atPath (f 8) [0, 1])] : Value) ∧ s = [], fun f v s => v = (.bool c.2 : Value) ∧ s = [], fun f v s => ∃ (B : Nat), v = (pB B 0 : Value) ∧ s = [(B, .cells ⟨[.slice none 0 0, .slice none 0 0]⟩ 85 (0, 0))], fun f v s => v = undef ∧ s = [((blkOf (f 12)), .cells ⟨[(atPath (f 8) [0, 0]), (atPath (f 8) [0, 1])]⟩ 85 (0, 0))]] : List ((Nat → Value) → Value → Seg → Prop)).getD i (fun _ _ _ => False)) j f v s) [12] [8, 11, 13] [8, 13] (fun _ _ _ s h => ⟨s, h⟩) (by kernel_rfl) (by kernel_rfl) (V.preNil 14) (by kernel_rfl) (by kernel_rfl) (by kernel_rfl) (by kernel_rfl) (allOb_cons ?_ (allOb_cons ?_ (allOb_cons ?_ (allOb_cons ?_ (allOb_cons ?_ (allOb_cons ?_ (allOb_cons ?_ (allOb_cons ?_ (allOb_cons ?_ (allOb_cons ?_ (allOb_cons ?_ (allOb_cons ?_ (allOb_cons ?_ (allOb_cons ?_ allOb_nil)))))))))))))) ?_)
 ·intro I K
  intro R b6 bb
  exact MW 1 (WN (oE (pB u 2) [] ⟨by kernel_rfl, rfl⟩ bb))
 ·intro I K
  intro v0_ hb0_
  obtain ⟨rfl, _⟩ := hb0_
  intro R b7 ae
  exact wV (.agg #[.slice F a.Queue.Slots.length C, .slice G a.Queue.Waiting.length D]) b7 (eL true 2 2 (ae.blk 0 rfl)) (WN (oE (.agg #[.slice F a.Queue.Slots.length C, .slice G a.Queue.Waiting.length D]) [] ⟨by kernel_rfl, rfl⟩ ae))
 ·intro I K
  intro R b8 bc
  exact MW 1 (WN (oE (pB u 1) [] ⟨by kernel_rfl, rfl⟩ bc))
 ·intro I K
  intro v2_ hb2_
  obtain ⟨rfl, _⟩ := hb2_
  intro R b9 af
  exact wV (.slice q a.Stack.length t) b9 (eL false 1 1 (af.blk 0 rfl)) (WN (oE (.slice q a.Stack.length t) [] ⟨by kernel_rfl, rfl⟩ af))
 ·intro I K
  intro R ca bd
  exact MW 1 (WN (oE (iv (a.Stack.length : Int)) [] ⟨by kernel_rfl, rfl⟩ bd))
 ·intro I K
  intro v4_ hb4_
  obtain ⟨rfl, _⟩ := hb4_
  intro R cb be
  exact MW 1 (WN (oE (iv (w64 ((a.Stack.length : Int) - 1))) [] ⟨by kernel_rfl, rfl⟩ be))
 ·intro I K
  intro v3_ hb3_
  obtain ⟨rfl, _⟩ := hb3_
  intro v5_ hb5_
  obtain ⟨rfl, _⟩ := hb5_
  intro R cc ag
  exact wV (elemP q ((w64 ((a.Stack.length : Int) - 1)).toNat * 1)) cc (eI (O.mem0 ag) rfl av) (WN (oE (elemP q ((w64 ((a.Stack.length : Int) - 1)).toNat * 1)) [] ⟨by kernel_rfl, rfl⟩ ag))
 ·intro I K
  intro v6_ hb6_
  obtain ⟨rfl, _⟩ := hb6_
  intro R cd ah
  exact wV (iv Q) cd (eE false 1 0 ((w64 ((a.Stack.length : Int) - 1)).toNat * 1) (O.mem0 ah) av) (WN (oE (iv Q) [] ⟨by kernel_rfl, rfl⟩ ah))
 ·intro I K
  intro v1_ hb1_
  obtain ⟨rfl, _⟩ := hb1_
  intro v7_ hb7_
  obtain ⟨rfl, _⟩ := hb7_
  intro R ce Y
  refine WC ((c_s_l9End ce a.Queue F C (b0.mem0 Y) G D (b1.mem0 Y) Q b2).mono ?_)
  rintro e_ c1 ⟨m, d, L, n, l, N, rfl, ab, ac, a8⟩
  refine ⟨_, rfl, ?_⟩
  exact WN (oE (.tuple #[.agg #[.slice m c.1.Slots.length d, .slice n c.1.Waiting.length l], .bool c.2]) (L ++ N) ⟨m, d, L, n, l, N, rfl, rfl, ab, ac⟩ (Mem.callMid Y (a8.permF (by simp))))
 ·intro I K
  intro v8_ hb8_
  obtain ⟨_, m, d, _, n, l, _, rfl, _⟩ := hb8_
  intro R cf bf
  exact MW 1 (WN (oE (.tuple #[.agg #[.slice m c.1.Slots.length d, .slice n c.1.Waiting.length l], .bool c.2]) [] ⟨by kernel_rfl, rfl⟩ bf))
 ·intro I K
  intro v8_ hb8_
  obtain ⟨_, m, d, _, n, l, _, rfl, _⟩ := hb8_
  intro v9_ hb9_
  obtain ⟨hv9_, _⟩ := hb9_
  obtain rfl : v9_ = (.tuple #[.agg #[.slice m c.1.Slots.length d, .slice n c.1.Waiting.length l], .bool c.2] : Value) := hv9_.trans (by kernel_rfl)
  intro R cg bg
  exact MW 1 (WN (oE (.agg #[.slice m c.1.Slots.length d, .slice n c.1.Waiting.length l]) [] ⟨by kernel_rfl, rfl⟩ bg))
 ·intro I K
  intro v8_ hb8_
  obtain ⟨_, m, d, _, n, l, _, rfl, _⟩ := hb8_
  intro v9_ hb9_
  obtain ⟨hv9_, _⟩ := hb9_
  obtain rfl : v9_ = (.tuple #[.agg #[.slice m c.1.Slots.length d, .slice n c.1.Waiting.length l], .bool c.2] : Value) := hv9_.trans (by kernel_rfl)
  intro R ch bh
  exact MW 1 (WN (oE (.bool c.2) [] ⟨by kernel_rfl, rfl⟩ bh))
 ·intro I K
  intro R c2 bi
  exact wN (.cells ⟨[.slice none 0 0, .slice none 0 0]⟩ 85 (0, 0)) bi fun B c3 bj => WN (oE (pB B 0) [(B, .cells ⟨[.slice none 0 0, .slice none 0 0]⟩ 85 (0, 0))] ⟨B, rfl, rfl⟩ (Mem.mid bj))
 ·intro I K
  intro v8_ hb8_
  obtain ⟨_, m, d, _, n, l, _, rfl, _⟩ := hb8_
  intro v10_ hb10_
  obtain ⟨hv10_, _⟩ := hb10_
  obtain rfl : v10_ = (.agg #[.slice m c.1.Slots.length d, .slice n c.1.Waiting.length l] : Value) := hv10_.trans (by kernel_rfl)
  intro v12_ hb12_
  obtain ⟨B, rfl, hs12_⟩ := hb12_
  intro R a6 bk
  have W : Mem [] w a6 ([[(u, .cells ⟨[iv a.Mask, .slice q a.Stack.length t, .slice F a.Queue.Slots.length C, .slice G a.Queue.Waiting.length D]⟩ 87 (0, 0))], [(z, .cells ⟨[iv 0, .slice none 0 0, .slice none 0 0, .slice none 0 0]⟩ 87 (0, 0))]] ++ ([[]] ++ ([(I 12)] ++ ([] ++ R)))) := bk
  rw [hs12_] at W
  replace W : Mem [] w a6 ([[(u, .cells ⟨[iv a.Mask, .slice q a.Stack.length t, .slice F a.Queue.Slots.length C, .slice G a.Queue.Waiting.length D]⟩ 87 (0, 0))], [(z, .cells ⟨[iv 0, .slice none 0 0, .slice none 0 0, .slice none 0 0]⟩ 87 (0, 0))]] ++ ([[]] ++ ([[(B, .cells ⟨[.slice none 0 0, .slice none 0 0]⟩ 85 (0, 0))]] ++ ([] ++ R)))) := W.permF (by simp)
  exact wS true 2 0 (.agg #[.slice m c.1.Slots.length d, .slice n c.1.Waiting.length l]) 3 [.slice m c.1.Slots.length d, .slice n c.1.Waiting.length l] W rfl fun c4 bl => WN (ob_none [(B, .cells ⟨[.slice m c.1.Slots.length d, .slice n c.1.Waiting.length l]⟩ 85 (0, 0))] rfl ⟨rfl, by kernel_rfl⟩ (Mem.takeOver bl))
 intro I K
 intro v12_ hb12_
 obtain ⟨_, B, rfl, hs12_⟩ := hb12_
 intro v8_ hb8_
 obtain ⟨m, d, L, n, l, N, rfl, hs8_, ab, ac⟩ := hb8_
 intro v11_ hb11_
 obtain ⟨rfl, _⟩ := hb11_
 intro v13_ hb13_
 obtain ⟨rfl, hs13_⟩ := hb13_
 replace hs13_ := hs13_.trans (show _ = [(B, .cells ⟨[.slice m c.1.Slots.length d, .slice n c.1.Waiting.length l]⟩ 85 (0, 0))] by kernel_rfl)
 intro X bm
 have U : Mem [] w X [[(u, .cells ⟨[iv a.Mask, .slice q a.Stack.length t, .slice F a.Queue.Slots.length C, .slice G a.Queue.Waiting.length D]⟩ 87 (0, 0))], [(z, .cells ⟨[iv 0, .slice none 0 0, .slice none 0 0, .slice none 0 0]⟩ 87 (0, 0))], (I 8), (I 13)] := bm
 rw [hs8_] at U
 rw [hs13_] at U
 replace U : Mem [] w X [[(u, .cells ⟨[iv a.Mask, .slice q a.Stack.length t, .slice F a.Queue.Slots.length C, .slice G a.Queue.Waiting.length D]⟩ 87 (0, 0))], [(z, .cells ⟨[iv 0, .slice none 0 0, .slice none 0 0, .slice none 0 0]⟩ 87 (0, 0))], L, N, [(B, .cells ⟨[.slice m c.1.Slots.length d, .slice n c.1.Waiting.length l]⟩ 85 (0, 0))]] := U.permF (by simp)
 refine wR 1 [(1, pB u 0), (2, pB z 0), (4, iv (a.Stack.length : Int)), (5, pB B 0)] X (NE ?_)
 obtain ⟨T, ax, hm⟩ := gx_bind hm
 obtain ⟨J, b3, hm⟩ := gx_bind hm
 obtain ⟨S, aw, hm⟩ := gx_bind hm
 have bn : Mem [] w X ([[(u, .cells ⟨[iv a.Mask, .slice q a.Stack.length t, .slice F a.Queue.Slots.length C, .slice G a.Queue.Waiting.length D]⟩ 87 (0, 0))], L, N, [(B, .cells ⟨[.slice m c.1.Slots.length d, .slice n c.1.Waiting.length l]⟩ 85 (0, 0))]] ++ (List.range 17).map (fun i => ([[], [], [], [], [], [], [], [], [], [], [], [], [], [], [], [], [(z, .cells ⟨[iv 0, .slice none 0 0, .slice none 0 0, .slice none 0 0]⟩ 87 (0, 0))]] : List Seg).getD i [])) := U.pk [0, 2, 3, 4, 300000, 300001, 300002, 300003, 300004, 300005, 300006, 300007, 300008, 300009, 300010, 300011, 300012, 300013, 300014, 300015, 1]
 refine G_sub [(1, pB u 0), (2, pB z 0), (4, iv (a.Stack.length : Int)), (5, pB B 0)] (by kernel_rfl) (G_dagL 17 [[], [0], [], [2], [], [4], [3, 5], [6], [], [1, 8], [], [10], [], [12], [11, 13], [14], [9]] [[], [], [], [], [], [], [], [], [], [], [], [], [], [], [], [], []] [[], [], [], [], [], [], [], [], [], [], [], [], [], [], [], [], []] [[], [], [], [], [], [], [], [], [], [7], [], [], [], [], [], [], [7]] [[], [], [], [], [], [], [], [], [], [7], [], [], [], [], [], [], [7]] [[], [], [], [], [], [], [], [], [], [], [], [], [], [], [], [], []] (fun i => ([[], [], [], [], [], [], [], [], [], [], [], [], [], [], [], [], [(z, .cells ⟨[iv 0, .slice none 0 0, .slice none 0 0, .slice none 0 0]⟩ 87 (0, 0))]] : List Seg).getD i []) (fun i => ([fun f v s => v = (pB u 0 : Value) ∧ s = [], fun f v s => v = (iv a.Mask : Value) ∧ s = [], fun f v s => v = (pB u 1 : Value) ∧ s = [], fun f v s => v = (.slice q a.Stack.length t : Value) ∧ s = [], fun f v s => v = (iv (a.Stack.length : Int) : Value) ∧ s = [], fun f v s => v = (iv (w64 ((a.Stack.length : Int) - 1)) : Value) ∧ s = [], fun f v s => v = (.slice (subP q (0 : Int).toNat t 1) T.length (t - (0 : Int).toNat) : Value) ∧ s = [], fun f v s => ∃ (y : Option Addr) (x : Nat), v = (.slice y J.length x : Value) ∧ ownS Gx.encI J y x s, fun f v s => v = (.agg #[.slice m c.1.Slots.length d, .slice n c.1.Waiting.length l] : Value) ∧ s = [], fun f v s => v = (.agg #[iv a.Mask, (atPath (f 7) []), .slice m c.1.Slots.length d, .slice n c.1.Waiting.length l] : Value) ∧ s = [], fun f v s => v = (pB u 1 : Value) ∧ s = [], fun f v s => v = (.slice q a.Stack.length t : Value) ∧ s = [], fun f v s => v = (iv (a.Stack.length : Int) : Value) ∧ s = [], fun f v s => v = (iv (w64 ((a.Stack.length : Int) - 1)) : Value) ∧ s = [], fun f v s => v = (elemP q ((w64 ((a.Stack.length : Int) - 1)).toNat * 1) : Value) ∧ s = [], fun f v s => v = (iv S : Value) ∧ s = [], fun f v s => v = undef ∧ s = [(z, .cells ⟨[iv a.Mask, (atPath (f 7) []), .slice m c.1.Slots.length d, .slice n c.1.Waiting.length l]⟩ 87 (0, 0))]] : List ((Nat → Value) → Value → Seg → Prop)).getD i (fun _ _ _ => False)) (fun j f v => ∃ s, (fun i => ([fun f v s => v = (pB u 0 : Value) ∧ s = [], fun f v s => v = (iv a.Mask : Value) ∧ s = [], fun f v s => v = (pB u 1 : Value) ∧ s = [], fun f v s => v = (.slice q a.Stack.length t : Value) ∧ s = [], fun f v s => v = (iv (a.Stack.length : Int) : Value) ∧ s = [], fun f v s => v = (iv (w64 ((a.Stack.length : Int) - 1)) : Value) ∧ s = [], fun f v s => v = (.slice (subP q (0 : Int).toNat t 1) T.length (t - (0 : Int).toNat) : Value) ∧ s = [], fun f v s => ∃ (y : Option Addr) (x : Nat), v = (.slice y J.length x : Value) ∧ ownS Gx.encI J y x s, fun f v s => v = (.agg #[.slice m c.1.Slots.length d, .slice n c.1.Waiting.length l] : Value) ∧ s = [], fun f v s => v = (.agg #[iv a.Mask, (atPath (f 7) []), .slice m c.1.Slots.length d, .slice n c.1.Waiting.length l] : Value) ∧ s = [], fun f v s => v = (pB u 1 : Value) ∧ s = [], fun f v s => v = (.slice q a.Stack.length t : Value) ∧ s = [], fun f v s => v = (iv (a.Stack.length : Int) : Value) ∧ s = [], fun f v s => v = (iv (w64 ((a.Stack.length : Int) - 1)) : Value) ∧ s = [], fun f v s => v = (elemP q ((w64 ((a.Stack.length : Int) - 1)).toNat * 1) : Value) ∧ s = [], fun f v s => v = (iv S : Value) ∧ s = [], fun f v s => v = undef ∧ s = [(z, .cells ⟨[iv a.Mask, (atPath (f 7) []), .slice m c.1.Slots.length d, .slice n c.1.Waiting.length l]⟩ 87 (0, 0))]] : List ((Nat → Value) → Value → Seg → Prop)).getD i (fun _ _ _ => False)) j f v s) [] [7, 15, 16] [7, 16] (fun _ _ _ s h => ⟨s, h⟩) (by kernel_rfl) (by kernel_rfl) bn (by kernel_rfl) (by kernel_rfl) (by kernel_rfl) (by kernel_rfl) (allOb_cons ?_ (allOb_cons ?_ (allOb_cons ?_ (allOb_cons ?_ (allOb_cons ?_ (allOb_cons ?_ (allOb_cons ?_ (allOb_cons ?_ (allOb_cons ?_ (allOb_cons ?_ (allOb_cons ?_ (allOb_cons ?_ (allOb_cons ?_ (allOb_cons ?_ (allOb_cons ?_ (allOb_cons ?_ (allOb_cons ?_ allOb_nil))))))))))))))))) ?_)
 ·intro A H
  intro R ci bo
  exact MW 1 (WN (oE (pB u 0) [] ⟨by kernel_rfl, rfl⟩ bo))
 ·intro A H
  intro v0_ hb0_
  obtain ⟨rfl, _⟩ := hb0_
  intro R cj ai
  exact wV (iv a.Mask) cj (eL false 1 0 (ai.blk 0 rfl)) (WN (oE (iv a.Mask) [] ⟨by kernel_rfl, rfl⟩ ai))
 ·intro A H
  intro R ck bp
  exact MW 1 (WN (oE (pB u 1) [] ⟨by kernel_rfl, rfl⟩ bp))
 ·intro A H
  intro v2_ hb2_
  obtain ⟨rfl, _⟩ := hb2_
  intro R cl aj
  exact wV (.slice q a.Stack.length t) cl (eL false 1 1 (aj.blk 0 rfl)) (WN (oE (.slice q a.Stack.length t) [] ⟨by kernel_rfl, rfl⟩ aj))
 ·intro A H
  intro R cm bq
  exact MW 1 (WN (oE (iv (a.Stack.length : Int)) [] ⟨by kernel_rfl, rfl⟩ bq))
 ·intro A H
  intro v4_ hb4_
  obtain ⟨rfl, _⟩ := hb4_
  intro R cn br
  exact MW 1 (WN (oE (iv (w64 ((a.Stack.length : Int) - 1))) [] ⟨by kernel_rfl, rfl⟩ br))
 ·intro A H
  intro v3_ hb3_
  obtain ⟨rfl, _⟩ := hb3_
  intro v5_ hb5_
  obtain ⟨rfl, _⟩ := hb5_
  intro R co ak
  exact wV (.slice (subP q (0 : Int).toNat t 1) T.length (t - (0 : Int).toNat)) co (E_slice (E := Gx.encI) _ _ _ _ a.Stack.length 0 (w64 ((a.Stack.length : Int) - 1)) rfl (by kernel_rfl) (Or.inl ⟨rfl, rfl⟩) (Or.inr ⟨_, rfl, by kernel_rfl⟩) (by kernel_rfl) (O.mem0 ak) rfl ax) (WN (oE (.slice (subP q (0 : Int).toNat t 1) T.length (t - (0 : Int).toNat)) [] ⟨by kernel_rfl, rfl⟩ ak))
 ·intro A H
  intro v6_ hb6_
  obtain ⟨rfl, _⟩ := hb6_
  intro R cp al
  refine WC ((c_s_l1Own cp T (subP q (0 : Int).toNat t 1) (t - (0 : Int).toNat) ((O.mem0 al).sliceM ax) b3).mono ?_)
  rintro e_ c5 ⟨y, x, b4, rfl, ad, a9⟩
  refine ⟨_, rfl, ?_⟩
  exact WN (oE (.slice y J.length x) b4 ⟨y, x, rfl, ad⟩ (Mem.callMid al a9))
 ·intro A H
  intro R cq am
  exact wV (.agg #[.slice m c.1.Slots.length d, .slice n c.1.Waiting.length l]) cq (eL true 2 0 (am.blk 3 rfl)) (WN (oE (.agg #[.slice m c.1.Slots.length d, .slice n c.1.Waiting.length l]) [] ⟨by kernel_rfl, rfl⟩ am))
 ·intro A H
  intro v7_ hb7_
  obtain ⟨_, y, x, rfl, _⟩ := hb7_
  intro v1_ hb1_
  obtain ⟨rfl, _⟩ := hb1_
  intro v8_ hb8_
  obtain ⟨rfl, _⟩ := hb8_
  intro R cr bs
  exact MW 1 (WN (oE (.agg #[iv a.Mask, .slice y J.length x, .slice m c.1.Slots.length d, .slice n c.1.Waiting.length l]) [] ⟨by kernel_rfl, rfl⟩ bs))
 ·intro A H
  intro R ct bt
  exact MW 1 (WN (oE (pB u 1) [] ⟨by kernel_rfl, rfl⟩ bt))
 ·intro A H
  intro v10_ hb10_
  obtain ⟨rfl, _⟩ := hb10_
  intro R cu an
  exact wV (.slice q a.Stack.length t) cu (eL false 1 1 (an.blk 0 rfl)) (WN (oE (.slice q a.Stack.length t) [] ⟨by kernel_rfl, rfl⟩ an))
 ·intro A H
  intro R cv bu
  exact MW 1 (WN (oE (iv (a.Stack.length : Int)) [] ⟨by kernel_rfl, rfl⟩ bu))
 ·intro A H
  intro v12_ hb12_
  obtain ⟨rfl, _⟩ := hb12_
  intro R cw bv
  exact MW 1 (WN (oE (iv (w64 ((a.Stack.length : Int) - 1))) [] ⟨by kernel_rfl, rfl⟩ bv))
 ·intro A H
  intro v11_ hb11_
  obtain ⟨rfl, _⟩ := hb11_
  intro v13_ hb13_
  obtain ⟨rfl, _⟩ := hb13_
  intro R cx ao
  exact wV (elemP q ((w64 ((a.Stack.length : Int) - 1)).toNat * 1)) cx (eI (O.mem0 ao) rfl aw) (WN (oE (elemP q ((w64 ((a.Stack.length : Int) - 1)).toNat * 1)) [] ⟨by kernel_rfl, rfl⟩ ao))
 ·intro A H
  intro v14_ hb14_
  obtain ⟨rfl, _⟩ := hb14_
  intro R cy ap
  exact wV (iv S) cy (eE false 1 0 ((w64 ((a.Stack.length : Int) - 1)).toNat * 1) (O.mem0 ap) aw) (WN (oE (iv S) [] ⟨by kernel_rfl, rfl⟩ ap))
 ·intro A H
  intro v7_ hb7_
  obtain ⟨_, y, x, rfl, _⟩ := hb7_
  intro v9_ hb9_
  obtain ⟨hv9_, _⟩ := hb9_
  obtain rfl : v9_ = (.agg #[iv a.Mask, .slice y J.length x, .slice m c.1.Slots.length d, .slice n c.1.Waiting.length l] : Value) := hv9_.trans (by kernel_rfl)
  intro R c6 bw
  exact wS true 4 0 (.agg #[iv a.Mask, .slice y J.length x, .slice m c.1.Slots.length d, .slice n c.1.Waiting.length l]) 4 [iv a.Mask, .slice y J.length x, .slice m c.1.Slots.length d, .slice n c.1.Waiting.length l] bw rfl fun c7 bx => WN (ob_none [(z, .cells ⟨[iv a.Mask, .slice y J.length x, .slice m c.1.Slots.length d, .slice n c.1.Waiting.length l]⟩ 87 (0, 0))] rfl ⟨rfl, by kernel_rfl⟩ bx)
 intro A H
 intro v7_ hb7_
 obtain ⟨y, x, rfl, ad⟩ := hb7_
 intro v15_ hb15_
 obtain ⟨rfl, _⟩ := hb15_
 intro v16_ hb16_
 obtain ⟨rfl, hs16_⟩ := hb16_
 replace hs16_ := hs16_.trans (show _ = [(z, .cells ⟨[iv a.Mask, .slice y J.length x, .slice m c.1.Slots.length d, .slice n c.1.Waiting.length l]⟩ 87 (0, 0))] by kernel_rfl)
 intro a7 bz
 have Z : Mem [] w a7 [[(u, .cells ⟨[iv a.Mask, .slice q a.Stack.length t, .slice F a.Queue.Slots.length C, .slice G a.Queue.Waiting.length D]⟩ 87 (0, 0))], L, N, [(B, .cells ⟨[.slice m c.1.Slots.length d, .slice n c.1.Waiting.length l]⟩ 85 (0, 0))], (A 7), (A 16)] := bz
 rw [hs16_] at Z
 refine wR 1 [(2, pB z 0), (3, iv S)] a7 (NC ?_)
 obtain rfl := HS hm
 exact N_ret [.agg #[iv a.Mask, .slice y J.length x, .slice m c.1.Slots.length d, .slice n c.1.Waiting.length l], iv S] (RX true 4 0 (Z.blk 5 rfl) (rC RVs_nil)) (⟨y, x, (A 7), m, d, L, n, l, N, rfl, ad, ab, ac, Z.pk [4, 1, 2]⟩)
end Go.Proofs.YtllhajkgkghhdaaGreat
