/- The walks, printed by program: whenever the model gives r, the call returns r. Part 4. -/
import Derived.Test.YtllhajkgkghhdaaGreatAM
import Derived.Test.YtllhajkgkghhdaaGreatGxZ
import Derived.Test.YtllhajkgkghhdaaGreatProg
import Derived.Test.YtllhajkgkghhdaaGreatSh
import Derived.Test.YtllhajkgkghhdaaGreatAC3
set_option linter.unusedVariables false
set_option maxRecDepth 100000
set_option maxHeartbeats 4000000
namespace Go.Proofs.YtllhajkgkghhdaaGreat
open Go.Gx
theorem c_l_eqSlotS (w : World) (c : List Slot) (f : Option Addr) (h : Nat) (u : rdS encSlot w c f h) (d : List Slot) (g : Option Addr) (i : Nat) (v : rdS encSlot w d g i) {r : Bool} (hm : M.l_eqSlotS c d = some r) :
  Calls Tryz.prog 212 #[.slice f c.length h, .slice g d.length i] w fun e w' => e = .returned (.bool r) ∧ Mem [] w w' [] := by
 unfold M.l_eqSlotS at hm
 refine cE Tryz.func212 ?_
 have M0 := Mem.refl [] w
 refine G_seq (G_region (wR 1 [(0, .slice f c.length h), (1, .slice g d.length i)] w (W_nil (N_then (G_seq (G_seq (G_region (wR 5 [(0, .slice f c.length h), (1, .slice g d.length i), (10, .bool ((c.length : Int) != (d.length : Int)))] w (W_nil (N_then ?_))))))))))
 rcases gx_bif hm with ⟨l, hm⟩ | ⟨l, hm⟩
 ·refine gT l (G_seq (G_region (wR 1 [(4, .bool false)] w (W_nil (N_then (G_ret (N_then_ret ?_)))))))
  obtain rfl := Option.some.inj hm
  exact N_ret [.bool false] (rC RVs_nil) (⟨rfl, M0.pk []⟩)
 refine gF l (G_skip (N_then (G_seq (G_seq (G_region (wR 1 [(0, .slice f c.length h), (1, .slice g d.length i), (5, iv 0)] w (W_nil (N_then ?_))))))))
 obtain ⟨I, H, x⟩ := gx_bind hm
 refine G_meet (fun a w' => ∃ (B : Unit), I = .inl B ∧ Mem [] w w' [] ∧ Sat Tryz.f212.ntmps [] a) ?_ ?_
 ·refine G_block (G_while (σ := Int) (ρ := (Unit) ⊕ (Bool)) (fun b a w' => Mem [] w w' [] ∧ Sat Tryz.f212.ntmps [(0, .slice f c.length h), (1, .slice g d.length i), (5, iv b)] a) H (fun a ha => ⟨M0.pk [], ha.s⟩) ?_)
  clear hm
  intro b O hm y L J ⟨q, E⟩
  refine G_use E (G_seq (G_seq (G_region (wR 4 [(0, .slice f c.length h), (1, .slice g d.length i), (5, iv b), (14, .bool (decide (b < (c.length : Int))))] J (W_nil (N_then ?_))))))
  rcases gx_bif hm with ⟨m, hm⟩ | ⟨m, hm⟩
  ·refine gT m (G_skip (N_then (G_seq (G_block (G_seq (G_quiet (by kernel_rfl) (by kernel_rfl) q (zR [.slice f c.length h, iv b] [(0, .slice f c.length h), (1, .slice g d.length i), (5, iv b), (17, .slice f c.length h), (18, iv b)] ?_)))))))
   obtain ⟨j, z, hm⟩ := gx_bind hm
   refine zV (elemP f (b.toNat * 3)) (fun w_ M_ => (eI (u.mem0 M_) rfl z)) (zV (.agg #[iv j.State, iv j.Irq, iv j.Priority]) (fun w_ M_ => (eE true 3 0 (b.toNat * 3) (u.mem0 M_) z)) (zR [.slice g d.length i, iv b] [(0, .slice f c.length h), (1, .slice g d.length i), (5, iv b), (20, .agg #[iv j.State, iv j.Irq, iv j.Priority]), (21, .slice g d.length i), (22, iv b)] ?_))
   obtain ⟨k, A, hm⟩ := gx_bind hm
   refine zV (elemP g (b.toNat * 3)) (fun w_ M_ => (eI (v.mem0 M_) rfl A)) (zV (.agg #[iv k.State, iv k.Irq, iv k.Priority]) (fun w_ M_ => (eE true 3 0 (b.toNat * 3) (v.mem0 M_) A)) ?_)
   obtain ⟨o, G, hm⟩ := gx_bind hm
   refine Z_call 246 #[.agg #[iv j.State, iv j.Irq, iv j.Priority], .agg #[iv k.State, iv k.Irq, iv k.Priority]] (.bool o) (by kernel_rfl) (fun w_ => by kernel_rfl) (fun w_ M_ => (c_l_eqSlot w_ j k G).mono fun e w2_ h_ => ⟨h_.1, M_.call0 h_.2⟩) (zR [.bool (!o)] [(0, .slice f c.length h), (1, .slice g d.length i), (5, iv b), (26, .bool (!o))] (Z_end fun C t => (N_then ?_)))
   rcases gx_bif hm with ⟨n, hm⟩ | ⟨n, hm⟩
   ·refine gT n (G_seq (G_region (wR 1 [(4, .bool false)] C (W_nil (N_then (G_ret (N_block_ret (N_then_ret (N_then_ret ?_)))))))))
    obtain rfl := Option.some.inj hm
    obtain rfl := y _ rfl
    have hm := x; simp only [Sum.elim_inr] at hm
    refine N_block_ret (N_meet_ret (N_then_ret ?_))
    obtain rfl := Option.some.inj hm
    exact N_ret [.bool false] (rC RVs_nil) (⟨rfl, t.pk []⟩)
   refine gF n (G_skip (N_block (N_then (G_region (wR 3 [(0, .slice f c.length h), (1, .slice g d.length i), (5, iv (w64 (b + 1)))] C (W_nil ?_))))))
   obtain rfl := Option.some.inj hm
   exact N_loop fun a ha => ⟨_, rfl, t.pk [], ha.s⟩
  refine gF m (G_exit (N_then_exit (N_then_exit (N_block_eq ?_))))
  obtain rfl := Option.some.inj hm
  obtain rfl := y _ rfl
  exact N_meet fun a ha => ⟨_, rfl, q.pk [], ha.s⟩
 intro N K ⟨B, hout_, D, F⟩
 refine N_use F ?_
 subst hout_
 have hm := x; simp only [Sum.elim_inl] at hm
 refine N_then (G_seq (G_region (wR 1 [(4, .bool true)] K (W_nil (N_then (G_ret ?_))))))
 obtain rfl := Option.some.inj hm
 exact N_ret [.bool true] (rC RVs_nil) (⟨rfl, D.pk []⟩)
theorem c_l_eqWaiter (w : World) (b : Waiter) (c : Waiter) {r : Bool} (hm : M.l_eqWaiter b c = some r) :
  Calls Tryz.prog 247 #[.agg #[iv b.Irq, iv b.Priority], .agg #[iv c.Irq, iv c.Priority]] w fun e w' => e = .returned (.bool r) ∧ Mem [] w w' [] := by
 unfold M.l_eqWaiter at hm
 refine cE Tryz.func247 ?_
 have M0 := Mem.refl [] w
 refine G_seq (G_region (wN (.cells ⟨[iv b.Irq, iv b.Priority]⟩ 142 (0, 0)) M0 ?_))
 intro g k j
 refine wN (.cells ⟨[iv c.Irq, iv c.Priority]⟩ 142 (0, 0)) j ?_
 intro f a d
 refine wR 1 [(2, pB g 0), (3, pB f 0)] a (W_nil (N_then (G_seq (G_seq (G_region (wR 1 [(2, pB g 0), (3, pB f 0), (5, pB g 0)] a (wV (iv b.Irq) a (eL false 1 0 (d.blk 0 rfl)) (wR 1 [(2, pB g 0), (3, pB f 0), (6, iv b.Irq), (7, pB f 0)] a (wV (iv c.Irq) a (eL false 1 0 (d.blk 1 rfl)) (wR 1 [(2, pB g 0), (3, pB f 0), (9, .bool (b.Irq != c.Irq))] a (W_nil (N_then ?_))))))))))))
 rcases gx_bif hm with ⟨h, hm⟩ | ⟨h, hm⟩
 ·refine gT h (G_seq (G_region (wR 1 [(4, .bool false)] a (W_nil (N_then (G_ret (N_then_ret ?_)))))))
  obtain rfl := Option.some.inj hm
  exact N_ret [.bool false] (rC RVs_nil) (⟨rfl, d.pk []⟩)
 refine gF h (G_skip (N_then (G_seq (G_seq (G_region (wR 1 [(3, pB f 0), (10, pB g 1)] a (wV (iv b.Priority) a (eL false 1 1 (d.blk 0 rfl)) (wR 1 [(11, iv b.Priority), (12, pB f 1)] a (wV (iv c.Priority) a (eL false 1 1 (d.blk 1 rfl)) (wR 1 [(14, .bool (b.Priority != c.Priority))] a (W_nil (N_then ?_))))))))))))
 rcases gx_bif hm with ⟨i, hm⟩ | ⟨i, hm⟩
 ·refine gT i (G_seq (G_region (wR 1 [(4, .bool false)] a (W_nil (N_then (G_ret (N_then_ret ?_)))))))
  obtain rfl := Option.some.inj hm
  exact N_ret [.bool false] (rC RVs_nil) (⟨rfl, d.pk []⟩)
 refine gF i (G_skip (N_then (G_seq (G_region (wR 1 [(4, .bool true)] a (W_nil (N_then (G_ret ?_))))))))
 obtain rfl := Option.some.inj hm
 exact N_ret [.bool true] (rC RVs_nil) (⟨rfl, d.pk []⟩)
theorem c_l_eqWaiterS (w : World) (c : List Waiter) (f : Option Addr) (h : Nat) (u : rdS encWaiter w c f h) (d : List Waiter) (g : Option Addr) (i : Nat) (v : rdS encWaiter w d g i) {r : Bool} (hm : M.l_eqWaiterS c d = some r) :
  Calls Tryz.prog 213 #[.slice f c.length h, .slice g d.length i] w fun e w' => e = .returned (.bool r) ∧ Mem [] w w' [] := by
 unfold M.l_eqWaiterS at hm
 refine cE Tryz.func213 ?_
 have M0 := Mem.refl [] w
 refine G_seq (G_region (wR 1 [(0, .slice f c.length h), (1, .slice g d.length i)] w (W_nil (N_then (G_seq (G_seq (G_region (wR 5 [(0, .slice f c.length h), (1, .slice g d.length i), (10, .bool ((c.length : Int) != (d.length : Int)))] w (W_nil (N_then ?_))))))))))
 rcases gx_bif hm with ⟨l, hm⟩ | ⟨l, hm⟩
 ·refine gT l (G_seq (G_region (wR 1 [(4, .bool false)] w (W_nil (N_then (G_ret (N_then_ret ?_)))))))
  obtain rfl := Option.some.inj hm
  exact N_ret [.bool false] (rC RVs_nil) (⟨rfl, M0.pk []⟩)
 refine gF l (G_skip (N_then (G_seq (G_seq (G_region (wR 1 [(0, .slice f c.length h), (1, .slice g d.length i), (5, iv 0)] w (W_nil (N_then ?_))))))))
 obtain ⟨I, H, x⟩ := gx_bind hm
 refine G_meet (fun a w' => ∃ (B : Unit), I = .inl B ∧ Mem [] w w' [] ∧ Sat Tryz.f213.ntmps [] a) ?_ ?_
 ·refine G_block (G_while (σ := Int) (ρ := (Unit) ⊕ (Bool)) (fun b a w' => Mem [] w w' [] ∧ Sat Tryz.f213.ntmps [(0, .slice f c.length h), (1, .slice g d.length i), (5, iv b)] a) H (fun a ha => ⟨M0.pk [], ha.s⟩) ?_)
  clear hm
  intro b O hm y L J ⟨q, E⟩
  refine G_use E (G_seq (G_seq (G_region (wR 4 [(0, .slice f c.length h), (1, .slice g d.length i), (5, iv b), (14, .bool (decide (b < (c.length : Int))))] J (W_nil (N_then ?_))))))
  rcases gx_bif hm with ⟨m, hm⟩ | ⟨m, hm⟩
  ·refine gT m (G_skip (N_then (G_seq (G_block (G_seq (G_quiet (by kernel_rfl) (by kernel_rfl) q (zR [.slice f c.length h, iv b] [(0, .slice f c.length h), (1, .slice g d.length i), (5, iv b), (17, .slice f c.length h), (18, iv b)] ?_)))))))
   obtain ⟨j, z, hm⟩ := gx_bind hm
   refine zV (elemP f (b.toNat * 2)) (fun w_ M_ => (eI (u.mem0 M_) rfl z)) (zV (.agg #[iv j.Irq, iv j.Priority]) (fun w_ M_ => (eE true 2 0 (b.toNat * 2) (u.mem0 M_) z)) (zR [.slice g d.length i, iv b] [(0, .slice f c.length h), (1, .slice g d.length i), (5, iv b), (20, .agg #[iv j.Irq, iv j.Priority]), (21, .slice g d.length i), (22, iv b)] ?_))
   obtain ⟨k, A, hm⟩ := gx_bind hm
   refine zV (elemP g (b.toNat * 2)) (fun w_ M_ => (eI (v.mem0 M_) rfl A)) (zV (.agg #[iv k.Irq, iv k.Priority]) (fun w_ M_ => (eE true 2 0 (b.toNat * 2) (v.mem0 M_) A)) ?_)
   obtain ⟨o, G, hm⟩ := gx_bind hm
   refine Z_call 247 #[.agg #[iv j.Irq, iv j.Priority], .agg #[iv k.Irq, iv k.Priority]] (.bool o) (by kernel_rfl) (fun w_ => by kernel_rfl) (fun w_ M_ => (c_l_eqWaiter w_ j k G).mono fun e w2_ h_ => ⟨h_.1, M_.call0 h_.2⟩) (zR [.bool (!o)] [(0, .slice f c.length h), (1, .slice g d.length i), (5, iv b), (26, .bool (!o))] (Z_end fun C t => (N_then ?_)))
   rcases gx_bif hm with ⟨n, hm⟩ | ⟨n, hm⟩
   ·refine gT n (G_seq (G_region (wR 1 [(4, .bool false)] C (W_nil (N_then (G_ret (N_block_ret (N_then_ret (N_then_ret ?_)))))))))
    obtain rfl := Option.some.inj hm
    obtain rfl := y _ rfl
    have hm := x; simp only [Sum.elim_inr] at hm
    refine N_block_ret (N_meet_ret (N_then_ret ?_))
    obtain rfl := Option.some.inj hm
    exact N_ret [.bool false] (rC RVs_nil) (⟨rfl, t.pk []⟩)
   refine gF n (G_skip (N_block (N_then (G_region (wR 3 [(0, .slice f c.length h), (1, .slice g d.length i), (5, iv (w64 (b + 1)))] C (W_nil ?_))))))
   obtain rfl := Option.some.inj hm
   exact N_loop fun a ha => ⟨_, rfl, t.pk [], ha.s⟩
  refine gF m (G_exit (N_then_exit (N_then_exit (N_block_eq ?_))))
  obtain rfl := Option.some.inj hm
  obtain rfl := y _ rfl
  exact N_meet fun a ha => ⟨_, rfl, q.pk [], ha.s⟩
 intro N K ⟨B, hout_, D, F⟩
 refine N_use F ?_
 subst hout_
 have hm := x; simp only [Sum.elim_inl] at hm
 refine N_then (G_seq (G_region (wR 1 [(4, .bool true)] K (W_nil (N_then (G_ret ?_))))))
 obtain rfl := Option.some.inj hm
 exact N_ret [.bool true] (rC RVs_nil) (⟨rfl, D.pk []⟩)
theorem c_l_eqQueue (w : World) (a : Queue) (g : Option Addr) (d : Nat) (C : rdS encSlot w a.Slots g d) (h : Option Addr) (f : Nat) (D : rdS encWaiter w a.Waiting h f) (b : Queue) (n : Option Addr) (l : Nat) (E : rdS encSlot w b.Slots n l) (o : Option Addr) (m : Nat) (F : rdS encWaiter w b.Waiting o m) {r : Bool} (hm : M.l_eqQueue a b = some r) :
  Calls Tryz.prog 167 #[.agg #[.slice g a.Slots.length d, .slice h a.Waiting.length f], .agg #[.slice n b.Slots.length l, .slice o b.Waiting.length m]] w fun e w' => e = .returned (.bool r) ∧ Mem [] w w' [] := by
 unfold M.l_eqQueue at hm
 refine cE Tryz.func167 ?_
 have M0 := Mem.refl [] w
 refine G_seq (G_region (wN (.cells ⟨[.slice g a.Slots.length d, .slice h a.Waiting.length f]⟩ 85 (0, 0)) M0 ?_))
 intro k K B
 refine wN (.cells ⟨[.slice n b.Slots.length l, .slice o b.Waiting.length m]⟩ 85 (0, 0)) B ?_
 intro c q t
 refine wR 1 [(2, pB k 0), (3, pB c 0)] q (W_nil (N_then (G_seq (G_seq (G_region (wR 1 [(2, pB k 0), (3, pB c 0), (5, pB k 0)] q (wV (.slice g a.Slots.length d) q (eL false 1 0 (t.blk 0 rfl)) (wR 1 [(2, pB k 0), (3, pB c 0), (6, .slice g a.Slots.length d), (7, pB c 0)] q (wV (.slice n b.Slots.length l) q (eL false 1 0 (t.blk 1 rfl)) ?_)))))))))
 obtain ⟨I, G, hm⟩ := gx_bind hm
 refine wC 212 #[.slice g a.Slots.length d, .slice n b.Slots.length l] ((c_l_eqSlotS q a.Slots g d (C.mem0 t) b.Slots n l (E.mem0 t) G).mono ?_)
 rintro e_ i ⟨rfl, z⟩
 have j := t.call0 z
 refine ⟨_, rfl, ?_⟩
 refine wR 1 [(2, pB k 0), (3, pB c 0), (10, .bool (!I))] i (W_nil (N_then ?_))
 rcases gx_bif hm with ⟨u, hm⟩ | ⟨u, hm⟩
 ·refine gT u (G_seq (G_region (wR 1 [(4, .bool false)] i (W_nil (N_then (G_ret (N_then_ret ?_)))))))
  obtain rfl := Option.some.inj hm
  exact N_ret [.bool false] (rC RVs_nil) (⟨rfl, j.pk []⟩)
 refine gF u (G_skip (N_then (G_seq (G_seq (G_region (wR 1 [(3, pB c 0), (11, pB k 1)] i (wV (.slice h a.Waiting.length f) i (eL false 1 1 (j.blk 0 rfl)) (wR 1 [(12, .slice h a.Waiting.length f), (13, pB c 1)] i (wV (.slice o b.Waiting.length m) i (eL false 1 1 (j.blk 1 rfl)) ?_)))))))))
 obtain ⟨J, H, hm⟩ := gx_bind hm
 refine wC 213 #[.slice h a.Waiting.length f, .slice o b.Waiting.length m] ((c_l_eqWaiterS i a.Waiting h f (D.mem0 j) b.Waiting o m (F.mem0 j) H).mono ?_)
 rintro e_ x ⟨rfl, A⟩
 have y := j.call0 A
 refine ⟨_, rfl, ?_⟩
 refine wR 1 [(16, .bool (!J))] x (W_nil (N_then ?_))
 rcases gx_bif hm with ⟨v, hm⟩ | ⟨v, hm⟩
 ·refine gT v (G_seq (G_region (wR 1 [(4, .bool false)] x (W_nil (N_then (G_ret (N_then_ret ?_)))))))
  obtain rfl := Option.some.inj hm
  exact N_ret [.bool false] (rC RVs_nil) (⟨rfl, y.pk []⟩)
 refine gF v (G_skip (N_then (G_seq (G_region (wR 1 [(4, .bool true)] x (W_nil (N_then (G_ret ?_))))))))
 obtain rfl := Option.some.inj hm
 exact N_ret [.bool true] (rC RVs_nil) (⟨rfl, y.pk []⟩)
theorem c_l_eqInterface (w : World) (a : Interface) (l : Option Addr) (i : Nat) (H : rdS Gx.encI w a.Stack l i) (m : Option Addr) (j : Nat) (I : rdS encSlot w a.Queue.Slots m j) (n : Option Addr) (k : Nat) (J : rdS encWaiter w a.Queue.Waiting n k) (b : Interface) (v : Option Addr) (q : Nat) (K : rdS Gx.encI w b.Stack v q) (x : Option Addr) (t : Nat) (L : rdS encSlot w b.Queue.Slots x t) (y : Option Addr) (u : Nat) (N : rdS encWaiter w b.Queue.Waiting y u) {r : Bool} (hm : M.l_eqInterface a b = some r) :
  Calls Tryz.prog 123 #[.agg #[iv a.Mask, .slice l a.Stack.length i, .slice m a.Queue.Slots.length j, .slice n a.Queue.Waiting.length k], .agg #[iv b.Mask, .slice v b.Stack.length q, .slice x b.Queue.Slots.length t, .slice y b.Queue.Waiting.length u]] w fun e w' => e = .returned (.bool r) ∧ Mem [] w w' [] := by
 unfold M.l_eqInterface at hm
 refine cE Tryz.func123 ?_
 have M0 := Mem.refl [] w
 refine G_seq (G_region (wN (.cells ⟨[iv a.Mask, .slice l a.Stack.length i, .slice m a.Queue.Slots.length j, .slice n a.Queue.Waiting.length k]⟩ 87 (0, 0)) M0 ?_))
 intro f S G
 refine wN (.cells ⟨[iv b.Mask, .slice v b.Stack.length q, .slice x b.Queue.Slots.length t, .slice y b.Queue.Waiting.length u]⟩ 87 (0, 0)) G ?_
 intro d c g
 refine wR 1 [(2, pB f 0), (3, pB d 0)] c (W_nil (N_then (G_seq (G_seq (G_region (wR 1 [(2, pB f 0), (3, pB d 0), (5, pB f 0)] c (wV (iv a.Mask) c (eL false 1 0 (g.blk 0 rfl)) (wR 1 [(2, pB f 0), (3, pB d 0), (6, iv a.Mask), (7, pB d 0)] c (wV (iv b.Mask) c (eL false 1 0 (g.blk 1 rfl)) (wR 1 [(2, pB f 0), (3, pB d 0), (9, .bool (a.Mask != b.Mask))] c (W_nil (N_then ?_))))))))))))
 rcases gx_bif hm with ⟨z, hm⟩ | ⟨z, hm⟩
 ·refine gT z (G_seq (G_region (wR 1 [(4, .bool false)] c (W_nil (N_then (G_ret (N_then_ret ?_)))))))
  obtain rfl := Option.some.inj hm
  exact N_ret [.bool false] (rC RVs_nil) (⟨rfl, g.pk []⟩)
 refine gF z (G_skip (N_then (G_seq (G_seq (G_region (wR 1 [(2, pB f 0), (3, pB d 0), (10, pB f 1)] c (wV (.slice l a.Stack.length i) c (eL false 1 1 (g.blk 0 rfl)) (wR 1 [(2, pB f 0), (3, pB d 0), (11, .slice l a.Stack.length i), (12, pB d 1)] c (wV (.slice v b.Stack.length q) c (eL false 1 1 (g.blk 1 rfl)) ?_)))))))))
 obtain ⟨Q, O, hm⟩ := gx_bind hm
 refine wC 19 #[.slice l a.Stack.length i, .slice v b.Stack.length q] ((c_l_eqIntS c a.Stack l i (H.mem0 g) b.Stack v q (K.mem0 g) O).mono ?_)
 rintro e_ o ⟨rfl, E⟩
 have h := g.call0 E
 refine ⟨_, rfl, ?_⟩
 refine wR 1 [(2, pB f 0), (3, pB d 0), (15, .bool (!Q))] o (W_nil (N_then ?_))
 rcases gx_bif hm with ⟨A, hm⟩ | ⟨A, hm⟩
 ·refine gT A (G_seq (G_region (wR 1 [(4, .bool false)] o (W_nil (N_then (G_ret (N_then_ret ?_)))))))
  obtain rfl := Option.some.inj hm
  exact N_ret [.bool false] (rC RVs_nil) (⟨rfl, h.pk []⟩)
 refine gF A (G_skip (N_then (G_seq (G_seq (G_region (wR 1 [(3, pB d 0), (16, pB f 2)] o (wV (.agg #[.slice m a.Queue.Slots.length j, .slice n a.Queue.Waiting.length k]) o (eL true 2 2 (h.blk 0 rfl)) (wR 1 [(17, .agg #[.slice m a.Queue.Slots.length j, .slice n a.Queue.Waiting.length k]), (18, pB d 2)] o (wV (.agg #[.slice x b.Queue.Slots.length t, .slice y b.Queue.Waiting.length u]) o (eL true 2 2 (h.blk 1 rfl)) ?_)))))))))
 obtain ⟨R, P, hm⟩ := gx_bind hm
 refine wC 167 #[.agg #[.slice m a.Queue.Slots.length j, .slice n a.Queue.Waiting.length k], .agg #[.slice x b.Queue.Slots.length t, .slice y b.Queue.Waiting.length u]] ((c_l_eqQueue o (⟨a.Queue.Slots, a.Queue.Waiting⟩ : Queue) m j (I.mem0 h) n k (J.mem0 h) (⟨b.Queue.Slots, b.Queue.Waiting⟩ : Queue) x t (L.mem0 h) y u (N.mem0 h) P).mono ?_)
 rintro e_ C ⟨rfl, F⟩
 have D := h.call0 F
 refine ⟨_, rfl, ?_⟩
 refine wR 1 [(21, .bool (!R))] C (W_nil (N_then ?_))
 rcases gx_bif hm with ⟨B, hm⟩ | ⟨B, hm⟩
 ·refine gT B (G_seq (G_region (wR 1 [(4, .bool false)] C (W_nil (N_then (G_ret (N_then_ret ?_)))))))
  obtain rfl := Option.some.inj hm
  exact N_ret [.bool false] (rC RVs_nil) (⟨rfl, D.pk []⟩)
 refine gF B (G_skip (N_then (G_seq (G_region (wR 1 [(4, .bool true)] C (W_nil (N_then (G_ret ?_))))))))
 obtain rfl := Option.some.inj hm
 exact N_ret [.bool true] (rC RVs_nil) (⟨rfl, D.pk []⟩)
theorem c_l_eqInterfaceS (w : World) (g : List Interface) (j : Option Addr) (l : Nat) (K : rdD deepInterface w g j l) (h : List Interface) (k : Option Addr) (m : Nat) (L : rdD deepInterface w h k m) {r : Bool} (hm : M.l_eqInterfaceS g h = some r) :
  Calls Tryz.prog 63 #[.slice j g.length l, .slice k h.length m] w fun e w' => e = .returned (.bool r) ∧ Mem [] w w' [] := by
 unfold M.l_eqInterfaceS at hm
 refine cE Tryz.func63 ?_
 have M0 := Mem.refl [] w
 refine G_seq (G_region (wR 1 [(0, .slice j g.length l), (1, .slice k h.length m)] w (W_nil (N_then (G_seq (G_seq (G_region (wR 5 [(0, .slice j g.length l), (1, .slice k h.length m), (10, .bool ((g.length : Int) != (h.length : Int)))] w (W_nil (N_then ?_))))))))))
 rcases gx_bif hm with ⟨q, hm⟩ | ⟨q, hm⟩
 ·refine gT q (G_seq (G_region (wR 1 [(4, .bool false)] w (W_nil (N_then (G_ret (N_then_ret ?_)))))))
  obtain rfl := Option.some.inj hm
  exact N_ret [.bool false] (rC RVs_nil) (⟨rfl, M0.pk []⟩)
 refine gF q (G_skip (N_then (G_seq (G_seq (G_region (wR 1 [(0, .slice j g.length l), (1, .slice k h.length m), (5, iv 0)] w (W_nil (N_then ?_))))))))
 obtain ⟨T, Q, B⟩ := gx_bind hm
 refine G_meet (fun a w' => ∃ (H : Unit), T = .inl H ∧ Mem [] w w' [] ∧ Sat Tryz.f63.ntmps [] a) ?_ ?_
 ·refine G_block (G_while (σ := Int) (ρ := (Unit) ⊕ (Bool)) (fun f a w' => Mem [] w w' [] ∧ Sat Tryz.f63.ntmps [(0, .slice j g.length l), (1, .slice k h.length m), (5, iv f)] a) Q (fun a ha => ⟨M0.pk [], ha.s⟩) ?_)
  clear hm
  intro f Y hm C W U ⟨z, N⟩
  refine G_use N (G_seq (G_seq (G_region (wR 4 [(0, .slice j g.length l), (1, .slice k h.length m), (5, iv f), (14, .bool (decide (f < (g.length : Int))))] U (W_nil (N_then ?_))))))
  rcases gx_bif hm with ⟨t, hm⟩ | ⟨t, hm⟩
  ·refine gT t (G_skip (N_then (G_seq (G_block (G_seq (G_quiet (by kernel_rfl) (by kernel_rfl) z (zR [.slice j g.length l, iv f] [(0, .slice j g.length l), (1, .slice k h.length m), (5, iv f), (17, .slice j g.length l), (18, iv f)] ?_)))))))
   obtain ⟨d, R, hm⟩ := gx_bind hm
   obtain ⟨Z, F, D, v⟩ := id K
   obtain ⟨b, n⟩ := gxIdx_fst F R
   refine zV (elemP j (f.toNat * 4)) (fun w_ M_ => (eI (D.mem0 M_) (len_fst F) n)) (zV (.agg #[iv d.Mask, .slice ((b 0).1) d.Stack.length ((b 0).2), .slice ((b 1).1) d.Queue.Slots.length ((b 1).2), .slice ((b 2).1) d.Queue.Waiting.length ((b 2).2)]) (fun w_ M_ => (eE true 4 0 (f.toNat * 4) (D.mem0 M_) n)) (zR [.slice k h.length m, iv f] [(0, .slice j g.length l), (1, .slice k h.length m), (5, iv f), (20, .agg #[iv d.Mask, .slice ((b 0).1) d.Stack.length ((b 0).2), .slice ((b 1).1) d.Queue.Slots.length ((b 1).2), .slice ((b 2).1) d.Queue.Waiting.length ((b 2).2)]), (21, .slice k h.length m), (22, iv f)] ?_))
   obtain ⟨i, S, hm⟩ := gx_bind hm
   obtain ⟨aa, G, E, x⟩ := id L
   obtain ⟨c, o⟩ := gxIdx_fst G S
   refine zV (elemP k (f.toNat * 4)) (fun w_ M_ => (eI (E.mem0 M_) (len_fst G) o)) (zV (.agg #[iv i.Mask, .slice ((c 0).1) i.Stack.length ((c 0).2), .slice ((c 1).1) i.Queue.Slots.length ((c 1).2), .slice ((c 2).1) i.Queue.Waiting.length ((c 2).2)]) (fun w_ M_ => (eE true 4 0 (f.toNat * 4) (E.mem0 M_) o)) ?_)
   obtain ⟨y, P, hm⟩ := gx_bind hm
   refine Z_call 123 #[.agg #[iv d.Mask, .slice ((b 0).1) d.Stack.length ((b 0).2), .slice ((b 1).1) d.Queue.Slots.length ((b 1).2), .slice ((b 2).1) d.Queue.Waiting.length ((b 2).2)], .agg #[iv i.Mask, .slice ((c 0).1) i.Stack.length ((c 0).2), .slice ((c 1).1) i.Queue.Slots.length ((c 1).2), .slice ((c 2).1) i.Queue.Waiting.length ((c 2).2)]] (.bool y) (by kernel_rfl) (fun w_ => by kernel_rfl) (fun w_ M_ => (c_l_eqInterface w_ (⟨d.Mask, d.Stack, (⟨d.Queue.Slots, d.Queue.Waiting⟩ : Queue)⟩ : Interface) ((b 0).1) ((b 0).2) ((v.mem0 M_).at_ n 0 ⟨Int, Gx.encI, d.Stack, (b 0).1, (b 0).2⟩ (by kernel_rfl)) ((b 1).1) ((b 1).2) ((v.mem0 M_).at_ n 1 ⟨Slot, encSlot, d.Queue.Slots, (b 1).1, (b 1).2⟩ (by kernel_rfl)) ((b 2).1) ((b 2).2) ((v.mem0 M_).at_ n 2 ⟨Waiter, encWaiter, d.Queue.Waiting, (b 2).1, (b 2).2⟩ (by kernel_rfl)) (⟨i.Mask, i.Stack, (⟨i.Queue.Slots, i.Queue.Waiting⟩ : Queue)⟩ : Interface) ((c 0).1) ((c 0).2) ((x.mem0 M_).at_ o 0 ⟨Int, Gx.encI, i.Stack, (c 0).1, (c 0).2⟩ (by kernel_rfl)) ((c 1).1) ((c 1).2) ((x.mem0 M_).at_ o 1 ⟨Slot, encSlot, i.Queue.Slots, (c 1).1, (c 1).2⟩ (by kernel_rfl)) ((c 2).1) ((c 2).2) ((x.mem0 M_).at_ o 2 ⟨Waiter, encWaiter, i.Queue.Waiting, (c 2).1, (c 2).2⟩ (by kernel_rfl)) P).mono fun e w2_ h_ => ⟨h_.1, M_.call0 h_.2⟩) (zR [.bool (!y)] [(0, .slice j g.length l), (1, .slice k h.length m), (5, iv f), (26, .bool (!y))] (Z_end fun I A => (N_then ?_)))
   rcases gx_bif hm with ⟨u, hm⟩ | ⟨u, hm⟩
   ·refine gT u (G_seq (G_region (wR 1 [(4, .bool false)] I (W_nil (N_then (G_ret (N_block_ret (N_then_ret (N_then_ret ?_)))))))))
    obtain rfl := Option.some.inj hm
    obtain rfl := C _ rfl
    have hm := B; simp only [Sum.elim_inr] at hm
    refine N_block_ret (N_meet_ret (N_then_ret ?_))
    obtain rfl := Option.some.inj hm
    exact N_ret [.bool false] (rC RVs_nil) (⟨rfl, A.pk []⟩)
   refine gF u (G_skip (N_block (N_then (G_region (wR 3 [(0, .slice j g.length l), (1, .slice k h.length m), (5, iv (w64 (f + 1)))] I (W_nil ?_))))))
   obtain rfl := Option.some.inj hm
   exact N_loop fun a ha => ⟨_, rfl, A.pk [], ha.s⟩
  refine gF t (G_exit (N_then_exit (N_then_exit (N_block_eq ?_))))
  obtain rfl := Option.some.inj hm
  obtain rfl := C _ rfl
  exact N_meet fun a ha => ⟨_, rfl, z.pk [], ha.s⟩
 intro X V ⟨H, hout_, J, O⟩
 refine N_use O ?_
 subst hout_
 have hm := B; simp only [Sum.elim_inl] at hm
 refine N_then (G_seq (G_region (wR 1 [(4, .bool true)] V (W_nil (N_then (G_ret ?_))))))
 obtain rfl := Option.some.inj hm
 exact N_ret [.bool true] (rC RVs_nil) (⟨rfl, J.pk []⟩)
theorem c_l_eqMachine (w : World) (a : Machine) (j : Option Addr) (f : Nat) (S : rdS encRoute w a.Routes j f) (k : Option Addr) (g : Nat) (T : rdS Gx.encB w a.Enabled k g) (l : Option Addr) (h : Nat) (U : rdS Gx.encB w a.Raised l h) (m : Option Addr) (i : Nat) (V : rdD deepInterface w a.Cpus m i) (b : Machine) (B : Option Addr) (x : Nat) (W : rdS encRoute w b.Routes B x) (C : Option Addr) (y : Nat) (X : rdS Gx.encB w b.Enabled C y) (D : Option Addr) (z : Nat) (Y : rdS Gx.encB w b.Raised D z) (E : Option Addr) (A : Nat) (Z : rdD deepInterface w b.Cpus E A) {r : Bool} (hm : M.l_eqMachine a b = some r) :
  Calls Tryz.prog 16 #[.agg #[.slice j a.Routes.length f, .slice k a.Enabled.length g, .slice l a.Raised.length h, .slice m a.Cpus.length i], .agg #[.slice B b.Routes.length x, .slice C b.Enabled.length y, .slice D b.Raised.length z, .slice E b.Cpus.length A]] w fun e w' => e = .returned (.bool r) ∧ Mem [] w w' [] := by
 unfold M.l_eqMachine at hm
 refine cE Tryz.func16 ?_
 have M0 := Mem.refl [] w
 refine G_seq (G_region (wN (.cells ⟨[.slice j a.Routes.length f, .slice k a.Enabled.length g, .slice l a.Raised.length h, .slice m a.Cpus.length i]⟩ 32 (0, 0)) M0 ?_))
 intro d w6474 R
 refine wN (.cells ⟨[.slice B b.Routes.length x, .slice C b.Enabled.length y, .slice D b.Raised.length z, .slice E b.Cpus.length A]⟩ 32 (0, 0)) R ?_
 intro c w6478 F
 refine wR 1 [(2, pB d 0), (3, pB c 0)] w6478 (W_nil (N_then (G_seq (G_seq (G_region (wR 1 [(2, pB d 0), (3, pB c 0), (5, pB d 0)] w6478 (wV (.slice j a.Routes.length f) w6478 (eL false 1 0 (F.blk 0 rfl)) (wR 1 [(2, pB d 0), (3, pB c 0), (6, .slice j a.Routes.length f), (7, pB c 0)] w6478 (wV (.slice B b.Routes.length x) w6478 (eL false 1 0 (F.blk 1 rfl)) ?_)))))))))
 obtain ⟨ae, aa, hm⟩ := gx_bind hm
 refine wC 61 #[.slice j a.Routes.length f, .slice B b.Routes.length x] ((c_l_eqRouteS w6478 a.Routes j f (S.mem0 F) b.Routes B x (W.mem0 F) aa).mono ?_)
 rintro e_ n ⟨rfl, N⟩
 have t := F.call0 N
 refine ⟨_, rfl, ?_⟩
 refine wR 1 [(2, pB d 0), (3, pB c 0), (10, .bool (!ae))] n (W_nil (N_then ?_))
 rcases gx_bif hm with ⟨G, hm⟩ | ⟨G, hm⟩
 ·refine gT G (G_seq (G_region (wR 1 [(4, .bool false)] n (W_nil (N_then (G_ret (N_then_ret ?_)))))))
  obtain rfl := Option.some.inj hm
  exact N_ret [.bool false] (rC RVs_nil) (⟨rfl, t.pk []⟩)
 refine gF G (G_skip (N_then (G_seq (G_seq (G_region (wR 1 [(2, pB d 0), (3, pB c 0), (11, pB d 1)] n (wV (.slice k a.Enabled.length g) n (eL false 1 1 (t.blk 0 rfl)) (wR 1 [(2, pB d 0), (3, pB c 0), (12, .slice k a.Enabled.length g), (13, pB c 1)] n (wV (.slice C b.Enabled.length y) n (eL false 1 1 (t.blk 1 rfl)) ?_)))))))))
 obtain ⟨af, ab, hm⟩ := gx_bind hm
 refine wC 62 #[.slice k a.Enabled.length g, .slice C b.Enabled.length y] ((c_l_eqBoolS n a.Enabled k g (T.mem0 t) b.Enabled C y (X.mem0 t) ab).mono ?_)
 rintro e_ o ⟨rfl, O⟩
 have u := t.call0 O
 refine ⟨_, rfl, ?_⟩
 refine wR 1 [(2, pB d 0), (3, pB c 0), (16, .bool (!af))] o (W_nil (N_then ?_))
 rcases gx_bif hm with ⟨H, hm⟩ | ⟨H, hm⟩
 ·refine gT H (G_seq (G_region (wR 1 [(4, .bool false)] o (W_nil (N_then (G_ret (N_then_ret ?_)))))))
  obtain rfl := Option.some.inj hm
  exact N_ret [.bool false] (rC RVs_nil) (⟨rfl, u.pk []⟩)
 refine gF H (G_skip (N_then (G_seq (G_seq (G_region (wR 1 [(2, pB d 0), (3, pB c 0), (17, pB d 2)] o (wV (.slice l a.Raised.length h) o (eL false 1 2 (u.blk 0 rfl)) (wR 1 [(2, pB d 0), (3, pB c 0), (18, .slice l a.Raised.length h), (19, pB c 2)] o (wV (.slice D b.Raised.length z) o (eL false 1 2 (u.blk 1 rfl)) ?_)))))))))
 obtain ⟨ag, ac, hm⟩ := gx_bind hm
 refine wC 62 #[.slice l a.Raised.length h, .slice D b.Raised.length z] ((c_l_eqBoolS o a.Raised l h (U.mem0 u) b.Raised D z (Y.mem0 u) ac).mono ?_)
 rintro e_ q ⟨rfl, P⟩
 have v := u.call0 P
 refine ⟨_, rfl, ?_⟩
 refine wR 1 [(2, pB d 0), (3, pB c 0), (22, .bool (!ag))] q (W_nil (N_then ?_))
 rcases gx_bif hm with ⟨I, hm⟩ | ⟨I, hm⟩
 ·refine gT I (G_seq (G_region (wR 1 [(4, .bool false)] q (W_nil (N_then (G_ret (N_then_ret ?_)))))))
  obtain rfl := Option.some.inj hm
  exact N_ret [.bool false] (rC RVs_nil) (⟨rfl, v.pk []⟩)
 refine gF I (G_skip (N_then (G_seq (G_seq (G_region (wR 1 [(3, pB c 0), (23, pB d 3)] q (wV (.slice m a.Cpus.length i) q (eL false 1 3 (v.blk 0 rfl)) (wR 1 [(24, .slice m a.Cpus.length i), (25, pB c 3)] q (wV (.slice E b.Cpus.length A) q (eL false 1 3 (v.blk 1 rfl)) ?_)))))))))
 obtain ⟨ah, ad, hm⟩ := gx_bind hm
 refine wC 63 #[.slice m a.Cpus.length i, .slice E b.Cpus.length A] ((c_l_eqInterfaceS q a.Cpus m i (V.mem0 v) b.Cpus E A (Z.mem0 v) ad).mono ?_)
 rintro e_ K ⟨rfl, Q⟩
 have L := v.call0 Q
 refine ⟨_, rfl, ?_⟩
 refine wR 1 [(28, .bool (!ah))] K (W_nil (N_then ?_))
 rcases gx_bif hm with ⟨J, hm⟩ | ⟨J, hm⟩
 ·refine gT J (G_seq (G_region (wR 1 [(4, .bool false)] K (W_nil (N_then (G_ret (N_then_ret ?_)))))))
  obtain rfl := Option.some.inj hm
  exact N_ret [.bool false] (rC RVs_nil) (⟨rfl, L.pk []⟩)
 refine gF J (G_skip (N_then (G_seq (G_region (wR 1 [(4, .bool true)] K (W_nil (N_then (G_ret ?_))))))))
 obtain rfl := Option.some.inj hm
 exact N_ret [.bool true] (rC RVs_nil) (⟨rfl, L.pk []⟩)
theorem c_l_FnExactIsMachine (w : World) (x1 : Machine) (p3 : Option Addr) (c4 : Nat) (h5 : rdS encRoute w x1.Routes p3 c4) (p7 : Option Addr) (c8 : Nat) (h9 : rdS Gx.encB w x1.Enabled p7 c8) (g : Option Addr) (c : Nat) (aa : rdS Gx.encB w x1.Raised g c) (k : Option Addr) (d : Nat) (ab : rdD deepInterface w x1.Cpus k d) {r : Bool} (hm : M.l_FnExactIsMachine x1 = some r) :
  Calls Tryz.prog 3 #[.agg #[.slice p3 x1.Routes.length c4, .slice p7 x1.Enabled.length c8, .slice g x1.Raised.length c, .slice k x1.Cpus.length d]] w fun e w' => e = .returned (.bool r) ∧ Mem [] w w' [] := by
 unfold M.l_FnExactIsMachine at hm
 refine cE Tryz.func3 ?_
 have M0 := Mem.refl [] w
 refine G_seq (G_region (wN (.cells ⟨[.slice p3 x1.Routes.length c4, .slice p7 x1.Enabled.length c8, .slice g x1.Raised.length c, .slice k x1.Cpus.length d]⟩ 26 (0, 0)) M0 ?_))
 intro z X P
 refine wR 1 [(1, pB z 0)] X (W_nil (N_then (G_seq (G_region (wR 1 [(1, pB z 0), (3, iv 1048576)] X (W_nil (N_then (G_seq (G_region (wV (.agg #[.slice p3 x1.Routes.length c4, .slice p7 x1.Enabled.length c8, .slice g x1.Raised.length c, .slice k x1.Cpus.length d]) X (eL true 4 0 (P.blk 0 rfl)) (wR 1 [(1, pB z 0), (3, iv 1048576), (7, .agg #[.slice p3 x1.Routes.length c4, .slice p7 x1.Enabled.length c8, .slice g x1.Raised.length c, .slice k x1.Cpus.length d]), (8, iv 1048576)] X ?_)))))))))))
 obtain ⟨a9, b1, hm⟩ := gx_bind hm
 refine wC 12 #[.agg #[.slice p3 x1.Routes.length c4, .slice p7 x1.Enabled.length c8, .slice g x1.Raised.length c, .slice k x1.Cpus.length d], iv 1048576] ((c_l_szMachine X x1 p3 c4 (h5.mem0 P) p7 c8 (h9.mem0 P) g c (aa.mem0 P) k d (ab.mem0 P) 1048576 b1).mono ?_)
 rintro e_ Y ⟨rfl, bm⟩
 have O := P.call0 bm
 refine ⟨_, rfl, ?_⟩
 refine wR 1 [(1, pB z 0), (3, iv a9)] Y (W_nil (N_then (G_seq (G_seq (G_region (wR 2 [(1, pB z 0), (11, .bool (decide (a9 < 0)))] Y (W_nil (N_then ?_))))))))
 rcases gx_bif hm with ⟨ae, hm⟩ | ⟨ae, hm⟩
 ·refine gT ae (G_seq (G_region (wR 1 [(2, .bool true)] Y (W_nil (N_then (G_ret (N_then_ret ?_)))))))
  obtain rfl := Option.some.inj hm
  exact N_ret [.bool true] (rC RVs_nil) (⟨rfl, O.pk []⟩)
 refine gF ae (G_skip (N_then (G_seq (G_region (wV (.agg #[.slice p3 x1.Routes.length c4, .slice p7 x1.Enabled.length c8, .slice g x1.Raised.length c, .slice k x1.Cpus.length d]) Y (eL true 4 0 (O.blk 0 rfl)) ?_)))))
 obtain ⟨W, b0, hm⟩ := gx_bind hm
 refine wC 14 #[.agg #[.slice p3 x1.Routes.length c4, .slice p7 x1.Enabled.length c8, .slice g x1.Raised.length c, .slice k x1.Cpus.length d]] ((c_l_toMachine Y x1 p3 c4 (h5.mem0 O) p7 c8 (h9.mem0 O) g c (aa.mem0 O) k d (ab.mem0 O) b0).mono ?_)
 rintro e_ b8 ⟨a5, av, ba, a6, aw, bb, a7, ax, bc, a8, ay, bd, be, rfl, bv, bw, bx, bz, bl⟩
 have T := O.call bl
 refine ⟨_, rfl, ?_⟩
 obtain ⟨ac, b2, hm⟩ := gx_bind hm
 refine wC 13 #[.agg #[.slice a5 W.Routes.length av, .slice a6 W.Enabled.length aw, .slice a7 W.Raised.length ax, .slice a8 W.Cpus.length ay]] ((c_s_IsMachine b8 W a5 av (bv.rd T 1 (by kernel_rfl)) a6 aw (bw.rd T 2 (by kernel_rfl)) a7 ax (bx.rd T 3 (by kernel_rfl)) a8 ay (bz.rd T 4 (by kernel_rfl) 5 (by kernel_rfl)) b2).mono ?_)
 rintro e_ am ⟨rfl, bn⟩
 have Q := T.call0 bn
 refine ⟨_, rfl, ?_⟩
 refine wR 1 [(1, pB z 0), (4, .bool ac)] am (W_nil (N_then (G_seq (G_region (wV (.agg #[.slice p3 x1.Routes.length c4, .slice p7 x1.Enabled.length c8, .slice g x1.Raised.length c, .slice k x1.Cpus.length d]) am (eL true 4 0 (Q.blk 0 rfl)) ?_)))))
 obtain ⟨a, b3, hm⟩ := gx_bind hm
 refine wC 14 #[.agg #[.slice p3 x1.Routes.length c4, .slice p7 x1.Enabled.length c8, .slice g x1.Raised.length c, .slice k x1.Cpus.length d]] ((c_l_toMachine am x1 p3 c4 (h5.mem0 Q) p7 c8 (h9.mem0 Q) g c (aa.mem0 Q) k d (ab.mem0 Q) b3).mono ?_)
 rintro e_ b9 ⟨q, l, bf, t, m, bg, u, n, bh, x, o, bi, bj, rfl, az, a0, a3, a4, bo⟩
 have bs := Q.call bo
 refine ⟨_, rfl, ?_⟩
 refine wN (.cells ⟨[.slice none 0 0, .slice none 0 0, .slice none 0 0, .slice none 0 0]⟩ 32 (0, 0)) bs ?_
 intro V ca bt
 refine wS true 4 0 (.agg #[.slice q a.Routes.length l, .slice t a.Enabled.length m, .slice u a.Raised.length n, .slice x a.Cpus.length o]) 11 [.slice q a.Routes.length l, .slice t a.Enabled.length m, .slice u a.Raised.length n, .slice x a.Cpus.length o] bt rfl ?_
 intro bk S
 refine W_nil (N_then (G_seq (G_region (wV (.agg #[.slice q a.Routes.length l, .slice t a.Enabled.length m, .slice u a.Raised.length n, .slice x a.Cpus.length o]) bk (eL true 4 0 (S.blk 11 rfl)) ?_))))
 obtain ⟨al, b4, hm⟩ := gx_bind hm
 refine wC 15 #[.agg #[.slice q a.Routes.length l, .slice t a.Enabled.length m, .slice u a.Raised.length n, .slice x a.Cpus.length o]] ((c_i_IsMachine bk a q l (az.rd S 6 (by kernel_rfl)) t m (a0.rd S 7 (by kernel_rfl)) u n (a3.rd S 8 (by kernel_rfl)) x o (a4.rd S 9 (by kernel_rfl) 10 (by kernel_rfl)) b4).mono ?_)
 rintro e_ an ⟨rfl, bp⟩
 have ap := S.call0 bp
 refine ⟨_, rfl, ?_⟩
 refine wR 1 [(1, pB z 0), (4, .bool ac), (5, pB V 0), (6, .bool al)] an (W_nil (N_then (G_seq (G_seq (G_region (wR 3 [(1, pB z 0), (5, pB V 0), (21, .bool (!(al == ac)))] an (W_nil (N_then ?_))))))))
 rcases gx_bif hm with ⟨af, hm⟩ | ⟨af, hm⟩
 ·refine gT af (G_seq (G_region (wR 1 [(2, .bool false)] an (W_nil (N_then (G_ret (N_then_ret ?_)))))))
  obtain rfl := Option.some.inj hm
  exact N_ret [.bool false] (rC RVs_nil) (⟨rfl, ap.pk []⟩)
 refine gF af (G_skip (N_then (G_seq (G_seq ?_))))
 obtain ⟨b, b5, hm⟩ := gx_bind hm
 refine G_sub [(1, pB z 0), (5, pB V 0), (21, .bool (!(al == ac)))] (by kernel_rfl) (G_dagL 3 [[], [], [1]] [[], [], []] [[], [], []] [[], [], []] [[], [], []] [[], [], []] (fun _ => []) (fun i => ([fun f v s => v = (.agg #[.slice q a.Routes.length l, .slice t a.Enabled.length m, .slice u a.Raised.length n, .slice x a.Cpus.length o] : Value) ∧ s = [], fun f v s => v = (.agg #[.slice p3 x1.Routes.length c4, .slice p7 x1.Enabled.length c8, .slice g x1.Raised.length c, .slice k x1.Cpus.length d] : Value) ∧ s = [], fun f v s => ∃ (E : Option Addr) (A : Nat) (I : Seg), ∃ (F : Option Addr) (B : Nat) (J : Seg), ∃ (G : Option Addr) (C : Nat) (K : Seg), ∃ (H : Option Addr) (D : Nat) (L : Seg) (N : Seg), v = (.agg #[.slice E b.Routes.length A, .slice F b.Enabled.length B, .slice G b.Raised.length C, .slice H b.Cpus.length D] : Value) ∧ s = (I ++ (J ++ (K ++ (L ++ N)))) ∧ ownS encRoute b.Routes E A I ∧ ownS Gx.encB b.Enabled F B J ∧ ownS Gx.encB b.Raised G C K ∧ ownD deepInterface b.Cpus H D L N] : List ((Nat → Value) → Value → Seg → Prop)).getD i (fun _ _ _ => False)) (fun j f v => ∃ s, (fun i => ([fun f v s => v = (.agg #[.slice q a.Routes.length l, .slice t a.Enabled.length m, .slice u a.Raised.length n, .slice x a.Cpus.length o] : Value) ∧ s = [], fun f v s => v = (.agg #[.slice p3 x1.Routes.length c4, .slice p7 x1.Enabled.length c8, .slice g x1.Raised.length c, .slice k x1.Cpus.length d] : Value) ∧ s = [], fun f v s => ∃ (E : Option Addr) (A : Nat) (I : Seg), ∃ (F : Option Addr) (B : Nat) (J : Seg), ∃ (G : Option Addr) (C : Nat) (K : Seg), ∃ (H : Option Addr) (D : Nat) (L : Seg) (N : Seg), v = (.agg #[.slice E b.Routes.length A, .slice F b.Enabled.length B, .slice G b.Raised.length C, .slice H b.Cpus.length D] : Value) ∧ s = (I ++ (J ++ (K ++ (L ++ N)))) ∧ ownS encRoute b.Routes E A I ∧ ownS Gx.encB b.Enabled F B J ∧ ownS Gx.encB b.Raised G C K ∧ ownD deepInterface b.Cpus H D L N] : List ((Nat → Value) → Value → Seg → Prop)).getD i (fun _ _ _ => False)) j f v s) [] [0, 2] [2] (fun _ _ _ s h => ⟨s, h⟩) (by kernel_rfl) (by kernel_rfl) (ap.preNil 3) (by kernel_rfl) (by kernel_rfl) (by kernel_rfl) (by kernel_rfl) (allOb_cons ?_ (allOb_cons ?_ (allOb_cons ?_ allOb_nil))) ?_)
 ·intro Z ad
  intro R w6422 aq
  exact wV (.agg #[.slice q a.Routes.length l, .slice t a.Enabled.length m, .slice u a.Raised.length n, .slice x a.Cpus.length o]) w6422 (eL true 4 0 (aq.blk 11 rfl)) (W_nil (oE (.agg #[.slice q a.Routes.length l, .slice t a.Enabled.length m, .slice u a.Raised.length n, .slice x a.Cpus.length o]) [] ⟨by kernel_rfl, rfl⟩ aq))
 ·intro Z ad
  intro R w6426 ar
  exact wV (.agg #[.slice p3 x1.Routes.length c4, .slice p7 x1.Enabled.length c8, .slice g x1.Raised.length c, .slice k x1.Cpus.length d]) w6426 (eL true 4 0 (ar.blk 0 rfl)) (W_nil (oE (.agg #[.slice p3 x1.Routes.length c4, .slice p7 x1.Enabled.length c8, .slice g x1.Raised.length c, .slice k x1.Cpus.length d]) [] ⟨by kernel_rfl, rfl⟩ ar))
 ·intro Z ad
  intro v1_ hb1_
  obtain ⟨rfl, _⟩ := hb1_
  intro R w6430 U
  refine wC 14 #[.agg #[.slice p3 x1.Routes.length c4, .slice p7 x1.Enabled.length c8, .slice g x1.Raised.length c, .slice k x1.Cpus.length d]] ((c_l_toMachine w6430 x1 p3 c4 (h5.mem0 U) p7 c8 (h9.mem0 U) g c (aa.mem0 U) k d (ab.mem0 U) b5).mono ?_)
  rintro e_ w6432 ⟨E, A, I, F, B, J, G, C, K, H, D, L, N, rfl, ah, ai, aj, ak, bq⟩
  refine ⟨_, rfl, ?_⟩
  exact W_nil (oE (.agg #[.slice E b.Routes.length A, .slice F b.Enabled.length B, .slice G b.Raised.length C, .slice H b.Cpus.length D]) (I ++ (J ++ (K ++ (L ++ N)))) ⟨E, A, I, F, B, J, G, C, K, H, D, L, N, rfl, rfl, ah, ai, aj, ak⟩ (Mem.callMid U (bq.permF (by simp))))
 intro Z ad
 intro v0_ hb0_
 obtain ⟨rfl, _⟩ := hb0_
 intro v2_ hb2_
 obtain ⟨E, A, I, F, B, J, G, C, K, H, D, L, N, rfl, hs2_, ah, ai, aj, ak⟩ := hb2_
 intro w6435 bu
 have y : Mem [] w w6435 [[(z, .cells ⟨[.slice p3 x1.Routes.length c4, .slice p7 x1.Enabled.length c8, .slice g x1.Raised.length c, .slice k x1.Cpus.length d]⟩ 26 (0, 0))], ba, bb, bc, bd, be, bf, bg, bh, bi, bj, [(V, .cells ⟨[.slice q a.Routes.length l, .slice t a.Enabled.length m, .slice u a.Raised.length n, .slice x a.Cpus.length o]⟩ 32 (0, 0))], (Z 2)] := bu
 rw [hs2_] at y
 replace y : Mem [] w w6435 [[(z, .cells ⟨[.slice p3 x1.Routes.length c4, .slice p7 x1.Enabled.length c8, .slice g x1.Raised.length c, .slice k x1.Cpus.length d]⟩ 26 (0, 0))], ba, bb, bc, bd, be, bf, bg, bh, bi, bj, [(V, .cells ⟨[.slice q a.Routes.length l, .slice t a.Enabled.length m, .slice u a.Raised.length n, .slice x a.Cpus.length o]⟩ 32 (0, 0))], I, J, K, L, N] := y.permF (by simp)
 obtain ⟨b7, b6, hm⟩ := gx_bind hm
 refine wC 16 #[.agg #[.slice q a.Routes.length l, .slice t a.Enabled.length m, .slice u a.Raised.length n, .slice x a.Cpus.length o], .agg #[.slice E b.Routes.length A, .slice F b.Enabled.length B, .slice G b.Raised.length C, .slice H b.Cpus.length D]] ((c_l_eqMachine w6435 a q l (az.rd y 6 (by kernel_rfl)) t m (a0.rd y 7 (by kernel_rfl)) u n (a3.rd y 8 (by kernel_rfl)) x o (a4.rd y 9 (by kernel_rfl) 10 (by kernel_rfl)) b E A (ah.rd y 12 (by kernel_rfl)) F B (ai.rd y 13 (by kernel_rfl)) G C (aj.rd y 14 (by kernel_rfl)) H D (ak.rd y 15 (by kernel_rfl) 16 (by kernel_rfl)) b6).mono ?_)
 rintro e_ ao ⟨rfl, br⟩
 have au := y.call0 br
 refine ⟨_, rfl, ?_⟩
 refine wR 1 [(26, .bool (!b7))] ao (W_nil (N_then ?_))
 rcases gx_bif hm with ⟨ag, hm⟩ | ⟨ag, hm⟩
 ·refine gT ag (G_seq (G_region (wR 1 [(2, .bool false)] ao (W_nil (N_then (G_ret (N_then_ret ?_)))))))
  obtain rfl := Option.some.inj hm
  exact N_ret [.bool false] (rC RVs_nil) (⟨rfl, au.pk []⟩)
 refine gF ag (G_skip (N_then (G_seq (G_region (wR 1 [(2, .bool true)] ao (W_nil (N_then (G_ret ?_))))))))
 obtain rfl := Option.some.inj hm
 exact N_ret [.bool true] (rC RVs_nil) (⟨rfl, au.pk []⟩)
theorem c_s_l21Cpu (w : World) (b : Machine) (k : Option Addr) (h : Nat) (B : rdS encRoute w b.Routes k h) (l : Option Addr) (i : Nat) (C : rdS Gx.encB w b.Enabled l i) (m : Option Addr) (j : Nat) (D : rdS Gx.encB w b.Raised m j) (f : Option Addr) (d : Nat) (E : rdD deepInterface w b.Cpus f d) (c : Int) {r : Bool} (hm : M.s_l21Cpu b c = some r) :
  Calls Tryz.prog 64 #[.agg #[.slice k b.Routes.length h, .slice l b.Enabled.length i, .slice m b.Raised.length j, .slice f b.Cpus.length d], iv c] w fun e w' => e = .returned (.bool r) ∧ Mem [] w w' [] := by
 unfold M.s_l21Cpu at hm
 refine cE Tryz.func64 ?_
 have M0 := Mem.refl [] w
 refine G_seq (G_region (wN (.cells ⟨[.slice k b.Routes.length h, .slice l b.Enabled.length i, .slice m b.Raised.length j, .slice f b.Cpus.length d]⟩ 32 (0, 0)) M0 ?_))
 intro q u g
 refine wR 1 [(1, iv c), (2, pB q 0)] u (W_nil (N_then (G_seq ?_)))
 obtain ⟨v, H, G⟩ := gx_bind hm
 refine G_meet (fun a w' => Mem [] w w' [] ∧ Sat Tryz.f64.ntmps [(4, .bool v)] a) ?_ ?_
 ·have hm := H
  refine G_region (wV (.agg #[.slice k b.Routes.length h, .slice l b.Enabled.length i, .slice m b.Raised.length j, .slice f b.Cpus.length d]) u (eL true 4 0 (g.blk 0 rfl)) ?_)
  obtain ⟨K, I, hm⟩ := gx_bind hm
  refine wC 54 #[.agg #[.slice k b.Routes.length h, .slice l b.Enabled.length i, .slice m b.Raised.length j, .slice f b.Cpus.length d]] ((c_s_l21Good u b k h (B.mem0 g) l i (C.mem0 g) m j (D.mem0 g) f d (E.mem0 g) I).mono ?_)
  rintro e_ n ⟨rfl, x⟩
  have o := g.call0 x
  refine ⟨_, rfl, ?_⟩
  refine wR 1 [(1, iv c), (2, pB q 0), (7, .bool K)] n ?_
  rcases gx_bif hm with ⟨t, hm⟩ | ⟨t, hm⟩
  ·refine wK 7 true t (wR 2 [(7, .bool true), (8, iv c), (9, pB q 3)] n (wV (.slice f b.Cpus.length d) n (eL false 1 3 (o.blk 0 rfl)) (wR 2 [(7, .bool true), (8, iv c), (12, iv (w64 ((b.Cpus.length : Int) - 1)))] n ?_)))
   obtain ⟨L, J, hm⟩ := gx_bind hm
   refine wC 124 #[iv c, iv 0, iv (w64 ((b.Cpus.length : Int) - 1))] ((c_s_l1In n c 0 (w64 ((b.Cpus.length : Int) - 1)) J).mono ?_)
   rintro e_ N ⟨rfl, y⟩
   have z := o.call0 y
   refine ⟨_, rfl, ?_⟩
   refine wR 2 [(4, .bool L)] N (W_nil ?_)
   obtain rfl := Option.some.inj hm
   exact N_meet fun a ha => ⟨z.pk [], ha.s⟩
  refine wK 7 false t (wR 8 [(4, .bool false)] n (W_nil ?_))
  obtain rfl := Option.some.inj hm
  exact N_meet fun a ha => ⟨o.pk [], ha.s⟩
 intro O P ⟨A, F⟩
 refine N_use F ?_
 have hm := G
 refine N_then (G_ret ?_)
 obtain rfl := Option.some.inj hm
 exact N_ret [.bool v] (rC RVs_nil) (⟨rfl, A.pk []⟩)
theorem c_s_l1Own (w : World) (a : List Int) (c : Option Addr) (b : Nat) (n : rdS Gx.encI w a c b) {r : (List Int)} (hm : M.s_l1Own a = some r) :
  Calls Tryz.prog 65 #[.slice c a.length b] w fun e w' => ∃ (j : Option Addr) (i : Nat) (k : Seg), e = .returned (.slice j r.length i) ∧ ownS Gx.encI r j i k ∧ Mem [] w w' [k] := by
 unfold M.s_l1Own at hm
 refine cE Tryz.func65 ?_
 have M0 := Mem.refl [] w
 refine G_seq (G_region (wR 1 [(0, .slice c a.length b)] w (W_nil (N_then (G_seq (G_region (wL (E := Gx.encI) ([] : List Int) 0 [] 3 M0 ?_)))))))
 intro u m z x q g
 refine wR 1 [(3, .slice u ([] : List Int).length m), (4, .slice c a.length b)] x ?_
 obtain ⟨h, o, hm⟩ := gx_bind hm
 refine wA 8 [iv 0] 0 g q (n.mem0 g) o ?_
 intro f d v y t l
 refine wR 1 [(2, .slice f h.length d)] y (W_nil (N_then (G_ret ?_)))
 obtain rfl := Option.some.inj hm
 exact N_ret [.slice f h.length d] (rC RVs_nil) (⟨f, d, v, rfl, t, l.pk [0]⟩)
theorem c_s_RunningOn (w : World) (a : Machine) (l : Option Addr) (i : Nat) (P : rdS encRoute w a.Routes l i) (m : Option Addr) (j : Nat) (Q : rdS Gx.encB w a.Enabled m j) (n : Option Addr) (k : Nat) (R : rdS Gx.encB w a.Raised n k) (c : Option Addr) (d : Nat) (F : rdD deepInterface w a.Cpus c d) (b : Int) {r : (List Int) × Bool} (hm : M.s_RunningOn a b = some r) :
  Calls Tryz.prog 17 #[.agg #[.slice l a.Routes.length i, .slice m a.Enabled.length j, .slice n a.Raised.length k, .slice c a.Cpus.length d], iv b] w fun e w' => ∃ (H : Option Addr) (D : Nat) (J : Seg), e = .returned (.tuple #[.slice H r.1.length D, .bool r.2]) ∧ ownS Gx.encI r.1 H D J ∧ Mem [] w w' [J] := by
 unfold M.s_RunningOn at hm
 refine cE Tryz.func17 ?_
 have M0 := Mem.refl [] w
 refine G_seq (G_region (wN (.cells ⟨[.slice l a.Routes.length i, .slice m a.Enabled.length j, .slice n a.Raised.length k, .slice c a.Cpus.length d]⟩ 32 (0, 0)) M0 ?_))
 intro q u o
 refine wR 2 [(1, iv b), (2, pB q 0)] u (W_nil (N_then (G_seq (G_seq (G_region (wV (.agg #[.slice l a.Routes.length i, .slice m a.Enabled.length j, .slice n a.Raised.length k, .slice c a.Cpus.length d]) u (eL true 4 0 (o.blk 0 rfl)) (wR 1 [(1, iv b), (2, pB q 0), (6, .agg #[.slice l a.Routes.length i, .slice m a.Enabled.length j, .slice n a.Raised.length k, .slice c a.Cpus.length d]), (7, iv b)] u ?_)))))))
 obtain ⟨Y, V, hm⟩ := gx_bind hm
 refine wC 64 #[.agg #[.slice l a.Routes.length i, .slice m a.Enabled.length j, .slice n a.Raised.length k, .slice c a.Cpus.length d], iv b] ((c_s_l21Cpu u a l i (P.mem0 o) m j (Q.mem0 o) n k (R.mem0 o) c d (F.mem0 o) b V).mono ?_)
 rintro e_ g ⟨rfl, K⟩
 have h := o.call0 K
 refine ⟨_, rfl, ?_⟩
 refine wR 1 [(1, iv b), (2, pB q 0), (9, .bool (!Y))] g (W_nil (N_then ?_))
 rcases gx_bif hm with ⟨z, hm⟩ | ⟨z, hm⟩
 ·refine gT z (G_seq (G_region (wL (E := Gx.encI) ([] : List Int) 0 [] 3 h ?_)))
  intro B x Z ab T N
  refine wR 2 [(4, .slice B ([] : List Int).length x), (5, .bool false)] ab (W_nil (N_then (G_ret (N_then_ret ?_))))
  obtain rfl := Option.some.inj hm
  exact N_ret [.slice B ([] : List Int).length x, .bool false] (rC (rC RVs_nil)) (⟨B, x, Z, rfl, T, N.pk [1]⟩)
 refine gF z (G_skip (N_then (G_seq (G_region (wR 1 [(1, iv b), (11, pB q 3)] g (wV (.slice c a.Cpus.length d) g (eL false 1 3 (h.blk 0 rfl)) (wR 1 [(12, .slice c a.Cpus.length d), (13, iv b)] g ?_)))))))
 obtain ⟨v, X, hm⟩ := gx_bind hm
 obtain ⟨ad, G, A, S⟩ := id F
 obtain ⟨f, t⟩ := gxIdx_fst G X
 refine wV (elemP c (b.toNat * 4)) g (eI (A.mem0 h) (len_fst G) t) (wV (elemP c (b.toNat * 4 + 1)) g (eF 1 (b.toNat * 4) 1 (A.mem0 h) t) (wV (.slice ((f 0).1) v.Stack.length ((f 0).2)) g (eE false 1 1 (b.toNat * 4 + 1) (A.mem0 h) t) ?_))
 obtain ⟨I, W, hm⟩ := gx_bind hm
 refine wC 65 #[.slice ((f 0).1) v.Stack.length ((f 0).2)] ((c_s_l1Own g v.Stack ((f 0).1) ((f 0).2) ((S.mem0 h).at_ t 0 ⟨Int, Gx.encI, v.Stack, (f 0).1, (f 0).2⟩ (by kernel_rfl)) W).mono ?_)
 rintro e_ ac ⟨C, y, aa, rfl, U, L⟩
 have O := h.call L
 refine ⟨_, rfl, ?_⟩
 refine wR 2 [(4, .slice C I.length y), (5, .bool true)] ac (W_nil (N_then (G_ret ?_)))
 obtain rfl := Option.some.inj hm
 exact N_ret [.slice C I.length y, .bool true] (rC (rC RVs_nil)) (⟨C, y, aa, rfl, U, O.pk [1]⟩)
theorem c_i_Machine_hasCpu (w : World) (a : Machine) (j : Option Addr) (g : Nat) (x : rdS encRoute w a.Routes j g) (k : Option Addr) (h : Nat) (y : rdS Gx.encB w a.Enabled k h) (l : Option Addr) (i : Nat) (z : rdS Gx.encB w a.Raised l i) (f : Option Addr) (d : Nat) (A : rdD deepInterface w a.Cpus f d) (b : Int) {r : Bool} (hm : M.i_Machine_hasCpu a b = some r) :
  Calls Tryz.prog 66 #[.agg #[.slice j a.Routes.length g, .slice k a.Enabled.length h, .slice l a.Raised.length i, .slice f a.Cpus.length d], iv b] w fun e w' => e = .returned (.bool r) ∧ Mem [] w w' [] := by
 unfold M.i_Machine_hasCpu at hm
 refine cE Tryz.func66 ?_
 have M0 := Mem.refl [] w
 refine G_seq (G_region (wN (.cells ⟨[.slice j a.Routes.length g, .slice k a.Enabled.length h, .slice l a.Raised.length i, .slice f a.Cpus.length d]⟩ 32 (0, 0)) M0 ?_))
 intro n c m
 refine wR 1 [(1, iv b), (2, pB n 0)] c (W_nil (N_then (G_seq (G_region (wR 2 [(5, iv b), (6, pB n 3)] c (wV (.slice f a.Cpus.length d) c (eL false 1 3 (m.blk 0 rfl)) (wR 2 [(5, iv b), (9, iv (w64 ((a.Cpus.length : Int) - 1)))] c ?_)))))))
 obtain ⟨o, u, hm⟩ := gx_bind hm
 refine wC 108 #[iv b, iv 0, iv (w64 ((a.Cpus.length : Int) - 1))] ((c_i_inside c b 0 (w64 ((a.Cpus.length : Int) - 1)) u).mono ?_)
 rintro e_ v ⟨rfl, q⟩
 have t := m.call0 q
 refine ⟨_, rfl, ?_⟩
 refine wR 1 [(4, .bool o)] v (W_nil (N_then (G_ret ?_)))
 obtain rfl := Option.some.inj hm
 exact N_ret [.bool o] (rC RVs_nil) (⟨rfl, t.pk []⟩)
theorem c_i_RunningOn (w : World) (b : Machine) (j : Option Addr) (g : Nat) (H : rdS encRoute w b.Routes j g) (k : Option Addr) (h : Nat) (I : rdS Gx.encB w b.Enabled k h) (l : Option Addr) (i : Nat) (J : rdS Gx.encB w b.Raised l i) (d : Option Addr) (f : Nat) (A : rdD deepInterface w b.Cpus d f) (c : Int) {r : (List Int) × Bool} (hm : M.i_RunningOn b c = some r) :
  Calls Tryz.prog 18 #[.agg #[.slice j b.Routes.length g, .slice k b.Enabled.length h, .slice l b.Raised.length i, .slice d b.Cpus.length f], iv c] w fun e w' => ∃ (L : Option Addr) (G : Nat) (O : Seg), e = .returned (.tuple #[.slice L r.1.length G, .bool r.2]) ∧ ownS Gx.encI r.1 L G O ∧ Mem [] w w' [O] := by
 unfold M.i_RunningOn at hm
 refine cE Tryz.func18 ?_
 have M0 := Mem.refl [] w
 refine G_seq (G_region (wN (.cells ⟨[.slice j b.Routes.length g, .slice k b.Enabled.length h, .slice l b.Raised.length i, .slice d b.Cpus.length f]⟩ 32 (0, 0)) M0 ?_))
 intro m F u
 refine wR 2 [(1, iv c), (2, pB m 0)] F (W_nil (N_then (G_seq (G_seq ?_))))
 obtain ⟨ad, X, W⟩ := gx_bind hm
 refine G_meet (fun a w' => Mem [] w w' [[(m, .cells ⟨[.slice j b.Routes.length g, .slice k b.Enabled.length h, .slice l b.Raised.length i, .slice d b.Cpus.length f]⟩ 32 (0, 0))]] ∧ Sat Tryz.f18.ntmps [(1, iv c), (2, pB m 0), (14, .bool ad)] a) ?_ ?_
 ·have hm := X
  refine G_region (wV (.agg #[.slice j b.Routes.length g, .slice k b.Enabled.length h, .slice l b.Raised.length i, .slice d b.Cpus.length f]) F (eL true 4 0 (u.blk 0 rfl)) ?_)
  obtain ⟨ae, Z, hm⟩ := gx_bind hm
  refine wC 15 #[.agg #[.slice j b.Routes.length g, .slice k b.Enabled.length h, .slice l b.Raised.length i, .slice d b.Cpus.length f]] ((c_i_IsMachine F b j g (H.mem0 u) k h (I.mem0 u) l i (J.mem0 u) d f (A.mem0 u) Z).mono ?_)
  rintro e_ v ⟨rfl, P⟩
  have q := u.call0 P
  refine ⟨_, rfl, ?_⟩
  refine wR 2 [(1, iv c), (2, pB m 0), (9, .bool (!ae))] v ?_
  rcases gx_bif hm with ⟨B, hm⟩ | ⟨B, hm⟩
  ·refine wK 9 true B (wR 5 [(1, iv c), (2, pB m 0), (14, .bool true)] v (W_nil ?_))
   obtain rfl := Option.some.inj hm
   exact N_meet fun a ha => ⟨q.pk [0], ha.s⟩
  refine wK 9 false B (wV (.agg #[.slice j b.Routes.length g, .slice k b.Enabled.length h, .slice l b.Raised.length i, .slice d b.Cpus.length f]) v (eL true 4 0 (q.blk 0 rfl)) (wR 1 [(1, iv c), (2, pB m 0), (9, .bool false), (10, .agg #[.slice j b.Routes.length g, .slice k b.Enabled.length h, .slice l b.Raised.length i, .slice d b.Cpus.length f]), (11, iv c)] v ?_))
  obtain ⟨af, aa, hm⟩ := gx_bind hm
  refine wC 66 #[.agg #[.slice j b.Routes.length g, .slice k b.Enabled.length h, .slice l b.Raised.length i, .slice d b.Cpus.length f], iv c] ((c_i_Machine_hasCpu v b j g (H.mem0 q) k h (I.mem0 q) l i (J.mem0 q) d f (A.mem0 q) c aa).mono ?_)
  rintro e_ ah ⟨rfl, Q⟩
  have S := q.call0 Q
  refine ⟨_, rfl, ?_⟩
  refine wR 2 [(1, iv c), (2, pB m 0), (14, .bool (!af))] ah (W_nil ?_)
  obtain rfl := Option.some.inj hm
  exact N_meet fun a ha => ⟨S.pk [0], ha.s⟩
 intro aj o ⟨t, U⟩
 refine N_use U ?_
 have hm := W
 refine N_then ?_
 rcases gx_bif hm with ⟨C, hm⟩ | ⟨C, hm⟩
 ·refine gT C (G_seq (G_region (wR 2 [(4, .slice none 0 0), (5, .bool false)] o (W_nil (N_then (G_ret (N_then_ret ?_)))))))
  obtain rfl := Option.some.inj hm
  exact N_ret [.slice none 0 0, .bool false] (rC (rC RVs_nil)) (⟨none, 0, [], rfl, ownS_nil, t.pk [100000]⟩)
 refine gF C (G_skip (N_then (G_seq (G_region (wR 1 [(1, iv c), (15, pB m 3)] o (wV (.slice d b.Cpus.length f) o (eL false 1 3 (t.blk 0 rfl)) (wR 1 [(16, .slice d b.Cpus.length f), (17, iv c)] o ?_)))))))
 obtain ⟨y, ac, hm⟩ := gx_bind hm
 obtain ⟨ak, K, D, V⟩ := id A
 obtain ⟨n, x⟩ := gxIdx_fst K ac
 refine wV (elemP d (c.toNat * 4)) o (eI (D.mem0 t) (len_fst K) x) (wV (elemP d (c.toNat * 4 + 1)) o (eF 1 (c.toNat * 4) 1 (D.mem0 t) x) (wV (.slice ((n 0).1) y.Stack.length ((n 0).2)) o (eE false 1 1 (c.toNat * 4 + 1) (D.mem0 t) x) ?_))
 obtain ⟨N, ab, hm⟩ := gx_bind hm
 refine wC 67 #[.slice ((n 0).1) y.Stack.length ((n 0).2)] ((c_i_copyInts o y.Stack ((n 0).1) ((n 0).2) ((V.mem0 t).at_ x 0 ⟨Int, Gx.encI, y.Stack, (n 0).1, (n 0).2⟩ (by kernel_rfl)) ab).mono ?_)
 rintro e_ ai ⟨E, z, ag, rfl, Y, R⟩
 have T := t.call R
 refine ⟨_, rfl, ?_⟩
 refine wR 2 [(4, .slice E N.length z), (5, .bool true)] ai (W_nil (N_then (G_ret ?_)))
 obtain rfl := Option.some.inj hm
 exact N_ret [.slice E N.length z, .bool true] (rC (rC RVs_nil)) (⟨E, z, ag, rfl, Y, T.pk [1]⟩)
theorem c_l_markRouteS (w : World) (h : List Route) (c : Option Addr) (f : Nat) (g : Seg) (J : ownS encRoute h c f g) (u : Int) (hA : ∀ q ∈ List.flatten [g], w.heap[q.1]? = some q.2) (hN : (idsOf [g]).Nodup) {r : Int × (List Route)} (hm : M.l_markRouteS h u = some r) :
  Calls Tryz.prog 68 #[.slice c h.length f, iv u] w fun e w' => ∃ (B : Seg), e = .returned (iv r.1) ∧ ownS encRoute r.2 c f B ∧ r.2.length = h.length ∧ Mem (idsOf [g]) w w' [B] := by
 unfold M.l_markRouteS at hm
 refine cE Tryz.func68 ?_
 have M0 := Mem.start' w [g] hA hN
 refine G_seq (G_region (wR 1 [(0, .slice c h.length f), (1, iv u)] w (W_nil (N_then (G_seq (G_seq (G_region (wR 1 [(0, .slice c h.length f), (1, iv u), (5, iv 0)] w (W_nil (N_then ?_))))))))))
 obtain ⟨i, O, I⟩ := gx_bind hm
 refine G_meet (fun a w' => ∃ (n : Seg), ownS encRoute i.2 c f n ∧ i.2.length = h.length ∧ Mem (idsOf [g]) w w' [n] ∧ Sat Tryz.f68.ntmps [(1, iv i.1)] a) ?_ ?_
 ·refine G_block (G_while (σ := Int × Int × List Route) (ρ := Int × List Route) (fun b a w' => ∃ (m : Seg), ownS encRoute b.2.2 c f m ∧ b.2.2.length = h.length ∧ Mem (idsOf [g]) w w' [m] ∧ Sat Tryz.f68.ntmps [(0, .slice c b.2.2.length f), (1, iv b.1), (5, iv b.2.1)] a) O (fun a ha => ⟨g, J, rfl, M0.pk [0], ha.s⟩) ?_)
  clear hm
  intro b W hm N S o ⟨m, k, A, j, F⟩
  refine G_use F (G_seq (G_seq (G_region (wR 4 [(0, .slice c b.2.2.length f), (1, iv b.1), (5, iv b.2.1), (9, .bool (decide (b.2.1 < (b.2.2.length : Int))))] o (W_nil (N_then ?_))))))
  rcases gx_bif hm with ⟨x, hm⟩ | ⟨x, hm⟩
  ·refine gT x (G_skip (N_then (G_seq (G_block (G_seq (G_region (wR 3 [(0, .slice c b.2.2.length f), (1, iv b.1), (5, iv b.2.1), (12, .slice c b.2.2.length f), (13, iv b.2.1), (14, iv b.1)] o ?_)))))))
   obtain ⟨d, l, hm⟩ := gx_bind hm
   refine wV (elemP c (b.2.1.toNat * 2)) o (eI (k.rd j 0 (by kernel_rfl)) rfl l) (wV (elemP c (b.2.1.toNat * 2 + 0)) o (eF 0 (b.2.1.toNat * 2) 0 (k.rd j 0 (by kernel_rfl)) l) (wE false 1 b.2.1.toNat 0 (b.2.1.toNat * 2 + 0) d (⟨b.1, d.Target⟩ : Route) (iv b.1) 0 j k (gxIdx_spec l).2 ?_))
   intro t V y v
   have z := gxIdx_put (⟨b.1, d.Target⟩ : Route) l
   refine wX 0 (.slice c b.2.2.length f) (.slice c (b.2.2.set b.2.1.toNat (⟨b.1, d.Target⟩ : Route)).length f) (by rw [@List.length_set _ b.2.2 b.2.1.toNat (⟨b.1, d.Target⟩ : Route)]) (wX 12 (.slice c b.2.2.length f) (.slice c (b.2.2.set b.2.1.toNat (⟨b.1, d.Target⟩ : Route)).length f) (by rw [@List.length_set _ b.2.2 b.2.1.toNat (⟨b.1, d.Target⟩ : Route)]) (W_nil (N_then (G_seq (G_region (wR 3 [(0, .slice c (b.2.2.set b.2.1.toNat (⟨b.1, d.Target⟩ : Route)).length f), (1, iv (w64 (b.1 + 1))), (5, iv b.2.1)] t (W_nil (N_then (G_seq (G_region (wR 3 [(0, .slice c (b.2.2.set b.2.1.toNat (⟨b.1, d.Target⟩ : Route)).length f), (1, iv (w64 (b.1 + 1))), (5, iv b.2.1), (19, .slice c (b.2.2.set b.2.1.toNat (⟨b.1, d.Target⟩ : Route)).length f), (20, iv b.2.1), (21, iv (w64 (b.1 + 1)))] t ?_)))))))))))
   obtain ⟨X, P, hm⟩ := gx_bind hm
   refine wV (elemP c (b.2.1.toNat * 2)) t (eI (y.rd v 0 (by kernel_rfl)) rfl P) (wV (elemP c (b.2.1.toNat * 2 + 1)) t (eF 1 (b.2.1.toNat * 2) 1 (y.rd v 0 (by kernel_rfl)) z) (wE false 1 b.2.1.toNat 1 (b.2.1.toNat * 2 + 1) (⟨b.1, d.Target⟩ : Route) (⟨(⟨b.1, d.Target⟩ : Route).Priority, w64 (b.1 + 1)⟩ : Route) (iv (w64 (b.1 + 1))) 0 v y (gxIdx_spec z).2 ?_))
   intro C Q L D
   have U := gxIdx_put (⟨(⟨b.1, d.Target⟩ : Route).Priority, w64 (b.1 + 1)⟩ : Route) z
   refine wX 0 (.slice c (b.2.2.set b.2.1.toNat (⟨b.1, d.Target⟩ : Route)).length f) (.slice c ((b.2.2.set b.2.1.toNat (⟨b.1, d.Target⟩ : Route)).set b.2.1.toNat (⟨(⟨b.1, d.Target⟩ : Route).Priority, w64 (b.1 + 1)⟩ : Route)).length f) (by rw [@List.length_set _ (b.2.2.set b.2.1.toNat (⟨b.1, d.Target⟩ : Route)) b.2.1.toNat (⟨(⟨b.1, d.Target⟩ : Route).Priority, w64 (b.1 + 1)⟩ : Route)]) (wX 19 (.slice c (b.2.2.set b.2.1.toNat (⟨b.1, d.Target⟩ : Route)).length f) (.slice c ((b.2.2.set b.2.1.toNat (⟨b.1, d.Target⟩ : Route)).set b.2.1.toNat (⟨(⟨b.1, d.Target⟩ : Route).Priority, w64 (b.1 + 1)⟩ : Route)).length f) (by rw [@List.length_set _ (b.2.2.set b.2.1.toNat (⟨b.1, d.Target⟩ : Route)) b.2.1.toNat (⟨(⟨b.1, d.Target⟩ : Route).Priority, w64 (b.1 + 1)⟩ : Route)]) (W_nil (N_then (G_region (wR 3 [(0, .slice c ((b.2.2.set b.2.1.toNat (⟨b.1, d.Target⟩ : Route)).set b.2.1.toNat (⟨(⟨b.1, d.Target⟩ : Route).Priority, w64 (b.1 + 1)⟩ : Route)).length f), (1, iv (w64 ((w64 (b.1 + 1)) + 1))), (5, iv b.2.1)] C (W_nil (N_block (N_then (G_region (wR 3 [(0, .slice c ((b.2.2.set b.2.1.toNat (⟨b.1, d.Target⟩ : Route)).set b.2.1.toNat (⟨(⟨b.1, d.Target⟩ : Route).Priority, w64 (b.1 + 1)⟩ : Route)).length f), (1, iv (w64 ((w64 (b.1 + 1)) + 1))), (5, iv (w64 (b.2.1 + 1)))] C (W_nil ?_)))))))))))
   obtain rfl := Option.some.inj hm
   exact N_loop fun a ha => ⟨_, rfl, Q, L, (List.length_set.trans (List.length_set.trans A)), D.pk [0], ha.s⟩
  refine gF x (G_exit (N_then_exit (N_then_exit (N_block_eq ?_))))
  obtain rfl := Option.some.inj hm
  obtain rfl := N _ rfl
  exact N_meet fun a ha => ⟨m, k, A, j.pk [0], ha.s⟩
 intro T R ⟨n, K, H, E, G⟩
 refine N_use G ?_
 have hm := I
 refine N_then (G_seq (G_region (wR 2 [(4, iv i.1)] R (W_nil (N_then (G_ret ?_))))))
 obtain rfl := Option.some.inj hm
 exact N_ret [iv i.1] (rC RVs_nil) (⟨n, rfl, K, H, E.pk [0]⟩)
theorem c_l_markBoolS (w : World) (g : List Bool) (c : Option Addr) (d : Nat) (f : Seg) (E : ownS Gx.encB g c d f) (k : Int) (hA : ∀ q ∈ List.flatten [f], w.heap[q.1]? = some q.2) (hN : (idsOf [f]).Nodup) {r : Int × (List Bool)} (hm : M.l_markBoolS g k = some r) :
  Calls Tryz.prog 69 #[.slice c g.length d, iv k] w fun e w' => ∃ (v : Seg), e = .returned (iv r.1) ∧ ownS Gx.encB r.2 c d v ∧ r.2.length = g.length ∧ Mem (idsOf [f]) w w' [v] := by
 unfold M.l_markBoolS at hm
 refine cE Tryz.func69 ?_
 have M0 := Mem.start' w [f] hA hN
 refine G_seq (G_region (wR 1 [(0, .slice c g.length d), (1, iv k)] w (W_nil (N_then (G_seq (G_seq (G_region (wR 1 [(0, .slice c g.length d), (1, iv k), (5, iv 0)] w (W_nil (N_then ?_))))))))))
 obtain ⟨h, I, D⟩ := gx_bind hm
 refine G_meet (fun a w' => ∃ (j : Seg), ownS Gx.encB h.2 c d j ∧ h.2.length = g.length ∧ Mem (idsOf [f]) w w' [j] ∧ Sat Tryz.f69.ntmps [(1, iv h.1)] a) ?_ ?_
 ·refine G_block (G_while (σ := Int × Int × List Bool) (ρ := Int × List Bool) (fun b a w' => ∃ (i : Seg), ownS Gx.encB b.2.2 c d i ∧ b.2.2.length = g.length ∧ Mem (idsOf [f]) w w' [i] ∧ Sat Tryz.f69.ntmps [(0, .slice c b.2.2.length d), (1, iv b.1), (5, iv b.2.1)] a) I (fun a ha => ⟨f, E, rfl, M0.pk [0], ha.s⟩) ?_)
  clear hm
  intro b P hm H N o ⟨i, n, t, l, A⟩
  refine G_use A (G_seq (G_seq (G_region (wR 4 [(0, .slice c b.2.2.length d), (1, iv b.1), (5, iv b.2.1), (9, .bool (decide (b.2.1 < (b.2.2.length : Int))))] o (W_nil (N_then ?_))))))
  rcases gx_bif hm with ⟨m, hm⟩ | ⟨m, hm⟩
  ·refine gT m (G_skip (N_then (G_seq (G_block (G_seq (G_region (wR 5 [(0, .slice c b.2.2.length d), (1, iv b.1), (5, iv b.2.1), (12, .slice c b.2.2.length d), (13, iv b.2.1), (16, .bool ((b.1.tmod 3) == 0))] o ?_)))))))
   obtain ⟨L, u, hm⟩ := gx_bind hm
   refine wV (elemP c (b.2.1.toNat * 1)) o (eI (n.rd l 0 (by kernel_rfl)) rfl u) (wE false 1 b.2.1.toNat 0 (b.2.1.toNat * 1) L ((b.1.tmod 3) == 0) (.bool ((b.1.tmod 3) == 0)) 0 l n (gxIdx_spec u).2 ?_)
   intro x J G y
   refine wX 0 (.slice c b.2.2.length d) (.slice c (b.2.2.set b.2.1.toNat ((b.1.tmod 3) == 0)).length d) (by rw [@List.length_set _ b.2.2 b.2.1.toNat ((b.1.tmod 3) == 0)]) (wX 12 (.slice c b.2.2.length d) (.slice c (b.2.2.set b.2.1.toNat ((b.1.tmod 3) == 0)).length d) (by rw [@List.length_set _ b.2.2 b.2.1.toNat ((b.1.tmod 3) == 0)]) (W_nil (N_then (G_region (wR 3 [(0, .slice c (b.2.2.set b.2.1.toNat ((b.1.tmod 3) == 0)).length d), (1, iv (w64 (b.1 + 1))), (5, iv b.2.1)] x (W_nil (N_block (N_then (G_region (wR 3 [(0, .slice c (b.2.2.set b.2.1.toNat ((b.1.tmod 3) == 0)).length d), (1, iv (w64 (b.1 + 1))), (5, iv (w64 (b.2.1 + 1)))] x (W_nil ?_)))))))))))
   obtain rfl := Option.some.inj hm
   exact N_loop fun a ha => ⟨_, rfl, J, G, (List.length_set.trans t), y.pk [0], ha.s⟩
  refine gF m (G_exit (N_then_exit (N_then_exit (N_block_eq ?_))))
  obtain rfl := Option.some.inj hm
  obtain rfl := H _ rfl
  exact N_meet fun a ha => ⟨i, n, t, l.pk [0], ha.s⟩
 intro O K ⟨j, F, C, z, B⟩
 refine N_use B ?_
 have hm := D
 refine N_then (G_seq (G_region (wR 2 [(4, iv h.1)] K (W_nil (N_then (G_ret ?_))))))
 obtain rfl := Option.some.inj hm
 exact N_ret [iv h.1] (rC RVs_nil) (⟨j, rfl, F, C, z.pk [0]⟩)
theorem c_l_markIntS (w : World) (g : List Int) (c : Option Addr) (d : Nat) (f : Seg) (E : ownS Gx.encI g c d f) (k : Int) (hA : ∀ q ∈ List.flatten [f], w.heap[q.1]? = some q.2) (hN : (idsOf [f]).Nodup) {r : Int × (List Int)} (hm : M.l_markIntS g k = some r) :
  Calls Tryz.prog 21 #[.slice c g.length d, iv k] w fun e w' => ∃ (v : Seg), e = .returned (iv r.1) ∧ ownS Gx.encI r.2 c d v ∧ r.2.length = g.length ∧ Mem (idsOf [f]) w w' [v] := by
 unfold M.l_markIntS at hm
 refine cE Tryz.func21 ?_
 have M0 := Mem.start' w [f] hA hN
 refine G_seq (G_region (wR 1 [(0, .slice c g.length d), (1, iv k)] w (W_nil (N_then (G_seq (G_seq (G_region (wR 1 [(0, .slice c g.length d), (1, iv k), (5, iv 0)] w (W_nil (N_then ?_))))))))))
 obtain ⟨h, I, D⟩ := gx_bind hm
 refine G_meet (fun a w' => ∃ (j : Seg), ownS Gx.encI h.2 c d j ∧ h.2.length = g.length ∧ Mem (idsOf [f]) w w' [j] ∧ Sat Tryz.f21.ntmps [(1, iv h.1)] a) ?_ ?_
 ·refine G_block (G_while (σ := Int × Int × List Int) (ρ := Int × List Int) (fun b a w' => ∃ (i : Seg), ownS Gx.encI b.2.2 c d i ∧ b.2.2.length = g.length ∧ Mem (idsOf [f]) w w' [i] ∧ Sat Tryz.f21.ntmps [(0, .slice c b.2.2.length d), (1, iv b.1), (5, iv b.2.1)] a) I (fun a ha => ⟨f, E, rfl, M0.pk [0], ha.s⟩) ?_)
  clear hm
  intro b P hm H N o ⟨i, n, t, l, A⟩
  refine G_use A (G_seq (G_seq (G_region (wR 4 [(0, .slice c b.2.2.length d), (1, iv b.1), (5, iv b.2.1), (9, .bool (decide (b.2.1 < (b.2.2.length : Int))))] o (W_nil (N_then ?_))))))
  rcases gx_bif hm with ⟨m, hm⟩ | ⟨m, hm⟩
  ·refine gT m (G_skip (N_then (G_seq (G_block (G_seq (G_region (wR 3 [(0, .slice c b.2.2.length d), (1, iv b.1), (5, iv b.2.1), (12, .slice c b.2.2.length d), (13, iv b.2.1), (14, iv b.1)] o ?_)))))))
   obtain ⟨L, u, hm⟩ := gx_bind hm
   refine wV (elemP c (b.2.1.toNat * 1)) o (eI (n.rd l 0 (by kernel_rfl)) rfl u) (wE false 1 b.2.1.toNat 0 (b.2.1.toNat * 1) L b.1 (iv b.1) 0 l n (gxIdx_spec u).2 ?_)
   intro x J G y
   refine wX 0 (.slice c b.2.2.length d) (.slice c (b.2.2.set b.2.1.toNat b.1).length d) (by rw [@List.length_set _ b.2.2 b.2.1.toNat b.1]) (wX 12 (.slice c b.2.2.length d) (.slice c (b.2.2.set b.2.1.toNat b.1).length d) (by rw [@List.length_set _ b.2.2 b.2.1.toNat b.1]) (W_nil (N_then (G_region (wR 3 [(0, .slice c (b.2.2.set b.2.1.toNat b.1).length d), (1, iv (w64 (b.1 + 1))), (5, iv b.2.1)] x (W_nil (N_block (N_then (G_region (wR 3 [(0, .slice c (b.2.2.set b.2.1.toNat b.1).length d), (1, iv (w64 (b.1 + 1))), (5, iv (w64 (b.2.1 + 1)))] x (W_nil ?_)))))))))))
   obtain rfl := Option.some.inj hm
   exact N_loop fun a ha => ⟨_, rfl, J, G, (List.length_set.trans t), y.pk [0], ha.s⟩
  refine gF m (G_exit (N_then_exit (N_then_exit (N_block_eq ?_))))
  obtain rfl := Option.some.inj hm
  obtain rfl := H _ rfl
  exact N_meet fun a ha => ⟨i, n, t, l.pk [0], ha.s⟩
 intro O K ⟨j, F, C, z, B⟩
 refine N_use B ?_
 have hm := D
 refine N_then (G_seq (G_region (wR 2 [(4, iv h.1)] K (W_nil (N_then (G_ret ?_))))))
 obtain rfl := Option.some.inj hm
 exact N_ret [iv h.1] (rC RVs_nil) (⟨j, rfl, F, C, z.pk [0]⟩)
theorem c_l_markSlotS (w : World) (h : List Slot) (d : Option Addr) (f : Nat) (g : Seg) (O : ownS encSlot h d f g) (v : Int) (hA : ∀ q ∈ List.flatten [g], w.heap[q.1]? = some q.2) (hN : (idsOf [g]).Nodup) {r : Int × (List Slot)} (hm : M.l_markSlotS h v = some r) :
  Calls Tryz.prog 125 #[.slice d h.length f, iv v] w fun e w' => ∃ (F : Seg), e = .returned (iv r.1) ∧ ownS encSlot r.2 d f F ∧ r.2.length = h.length ∧ Mem (idsOf [g]) w w' [F] := by
 unfold M.l_markSlotS at hm
 refine cE Tryz.func125 ?_
 have M0 := Mem.start' w [g] hA hN
 refine G_seq (G_region (wR 1 [(0, .slice d h.length f), (1, iv v)] w (W_nil (N_then (G_seq (G_seq (G_region (wR 1 [(0, .slice d h.length f), (1, iv v), (5, iv 0)] w (W_nil (N_then ?_))))))))))
 obtain ⟨i, S, N⟩ := gx_bind hm
 refine G_meet (fun a w' => ∃ (n : Seg), ownS encSlot i.2 d f n ∧ i.2.length = h.length ∧ Mem (idsOf [g]) w w' [n] ∧ Sat Tryz.f125.ntmps [(1, iv i.1)] a) ?_ ?_
 ·refine G_block (G_while (σ := Int × Int × List Slot) (ρ := Int × List Slot) (fun b a w' => ∃ (m : Seg), ownS encSlot b.2.2 d f m ∧ b.2.2.length = h.length ∧ Mem (idsOf [g]) w w' [m] ∧ Sat Tryz.f125.ntmps [(0, .slice d b.2.2.length f), (1, iv b.1), (5, iv b.2.1)] a) S (fun a ha => ⟨g, O, rfl, M0.pk [0], ha.s⟩) ?_)
  clear hm
  intro b ac hm R X o ⟨m, k, E, j, J⟩
  refine G_use J (G_seq (G_seq (G_region (wR 4 [(0, .slice d b.2.2.length f), (1, iv b.1), (5, iv b.2.1), (9, .bool (decide (b.2.1 < (b.2.2.length : Int))))] o (W_nil (N_then ?_))))))
  rcases gx_bif hm with ⟨z, hm⟩ | ⟨z, hm⟩
  ·refine gT z (G_skip (N_then (G_seq (G_block (G_seq (G_region (wR 3 [(0, .slice d b.2.2.length f), (1, iv b.1), (5, iv b.2.1), (12, .slice d b.2.2.length f), (13, iv b.2.1), (14, iv b.1)] o ?_)))))))
   obtain ⟨c, l, hm⟩ := gx_bind hm
   refine wV (elemP d (b.2.1.toNat * 3)) o (eI (k.rd j 0 (by kernel_rfl)) rfl l) (wV (elemP d (b.2.1.toNat * 3 + 0)) o (eF 0 (b.2.1.toNat * 3) 0 (k.rd j 0 (by kernel_rfl)) l) (wE false 1 b.2.1.toNat 0 (b.2.1.toNat * 3 + 0) c (⟨b.1, c.Irq, c.Priority⟩ : Slot) (iv b.1) 0 j k (gxIdx_spec l).2 ?_))
   intro t aa A x
   have C := gxIdx_put (⟨b.1, c.Irq, c.Priority⟩ : Slot) l
   refine wX 0 (.slice d b.2.2.length f) (.slice d (b.2.2.set b.2.1.toNat (⟨b.1, c.Irq, c.Priority⟩ : Slot)).length f) (by rw [@List.length_set _ b.2.2 b.2.1.toNat (⟨b.1, c.Irq, c.Priority⟩ : Slot)]) (wX 12 (.slice d b.2.2.length f) (.slice d (b.2.2.set b.2.1.toNat (⟨b.1, c.Irq, c.Priority⟩ : Slot)).length f) (by rw [@List.length_set _ b.2.2 b.2.1.toNat (⟨b.1, c.Irq, c.Priority⟩ : Slot)]) (W_nil (N_then (G_seq (G_region (wR 3 [(0, .slice d (b.2.2.set b.2.1.toNat (⟨b.1, c.Irq, c.Priority⟩ : Slot)).length f), (1, iv (w64 (b.1 + 1))), (5, iv b.2.1)] t (W_nil (N_then (G_seq (G_region (wR 3 [(0, .slice d (b.2.2.set b.2.1.toNat (⟨b.1, c.Irq, c.Priority⟩ : Slot)).length f), (1, iv (w64 (b.1 + 1))), (5, iv b.2.1), (19, .slice d (b.2.2.set b.2.1.toNat (⟨b.1, c.Irq, c.Priority⟩ : Slot)).length f), (20, iv b.2.1), (21, iv (w64 (b.1 + 1)))] t ?_)))))))))))
   obtain ⟨ad, T, hm⟩ := gx_bind hm
   refine wV (elemP d (b.2.1.toNat * 3)) t (eI (A.rd x 0 (by kernel_rfl)) rfl T) (wV (elemP d (b.2.1.toNat * 3 + 1)) t (eF 1 (b.2.1.toNat * 3) 1 (A.rd x 0 (by kernel_rfl)) C) (wE false 1 b.2.1.toNat 1 (b.2.1.toNat * 3 + 1) (⟨b.1, c.Irq, c.Priority⟩ : Slot) (⟨(⟨b.1, c.Irq, c.Priority⟩ : Slot).State, w64 (b.1 + 1), (⟨b.1, c.Irq, c.Priority⟩ : Slot).Priority⟩ : Slot) (iv (w64 (b.1 + 1))) 0 x A (gxIdx_spec C).2 ?_))
   intro u ab B y
   have D := gxIdx_put (⟨(⟨b.1, c.Irq, c.Priority⟩ : Slot).State, w64 (b.1 + 1), (⟨b.1, c.Irq, c.Priority⟩ : Slot).Priority⟩ : Slot) C
   refine wX 0 (.slice d (b.2.2.set b.2.1.toNat (⟨b.1, c.Irq, c.Priority⟩ : Slot)).length f) (.slice d ((b.2.2.set b.2.1.toNat (⟨b.1, c.Irq, c.Priority⟩ : Slot)).set b.2.1.toNat (⟨(⟨b.1, c.Irq, c.Priority⟩ : Slot).State, w64 (b.1 + 1), (⟨b.1, c.Irq, c.Priority⟩ : Slot).Priority⟩ : Slot)).length f) (by rw [@List.length_set _ (b.2.2.set b.2.1.toNat (⟨b.1, c.Irq, c.Priority⟩ : Slot)) b.2.1.toNat (⟨(⟨b.1, c.Irq, c.Priority⟩ : Slot).State, w64 (b.1 + 1), (⟨b.1, c.Irq, c.Priority⟩ : Slot).Priority⟩ : Slot)]) (wX 19 (.slice d (b.2.2.set b.2.1.toNat (⟨b.1, c.Irq, c.Priority⟩ : Slot)).length f) (.slice d ((b.2.2.set b.2.1.toNat (⟨b.1, c.Irq, c.Priority⟩ : Slot)).set b.2.1.toNat (⟨(⟨b.1, c.Irq, c.Priority⟩ : Slot).State, w64 (b.1 + 1), (⟨b.1, c.Irq, c.Priority⟩ : Slot).Priority⟩ : Slot)).length f) (by rw [@List.length_set _ (b.2.2.set b.2.1.toNat (⟨b.1, c.Irq, c.Priority⟩ : Slot)) b.2.1.toNat (⟨(⟨b.1, c.Irq, c.Priority⟩ : Slot).State, w64 (b.1 + 1), (⟨b.1, c.Irq, c.Priority⟩ : Slot).Priority⟩ : Slot)]) (W_nil (N_then (G_seq (G_region (wR 3 [(0, .slice d ((b.2.2.set b.2.1.toNat (⟨b.1, c.Irq, c.Priority⟩ : Slot)).set b.2.1.toNat (⟨(⟨b.1, c.Irq, c.Priority⟩ : Slot).State, w64 (b.1 + 1), (⟨b.1, c.Irq, c.Priority⟩ : Slot).Priority⟩ : Slot)).length f), (1, iv (w64 ((w64 (b.1 + 1)) + 1))), (5, iv b.2.1)] u (W_nil (N_then (G_seq (G_region (wR 3 [(0, .slice d ((b.2.2.set b.2.1.toNat (⟨b.1, c.Irq, c.Priority⟩ : Slot)).set b.2.1.toNat (⟨(⟨b.1, c.Irq, c.Priority⟩ : Slot).State, w64 (b.1 + 1), (⟨b.1, c.Irq, c.Priority⟩ : Slot).Priority⟩ : Slot)).length f), (1, iv (w64 ((w64 (b.1 + 1)) + 1))), (5, iv b.2.1), (26, .slice d ((b.2.2.set b.2.1.toNat (⟨b.1, c.Irq, c.Priority⟩ : Slot)).set b.2.1.toNat (⟨(⟨b.1, c.Irq, c.Priority⟩ : Slot).State, w64 (b.1 + 1), (⟨b.1, c.Irq, c.Priority⟩ : Slot).Priority⟩ : Slot)).length f), (27, iv b.2.1), (28, iv (w64 ((w64 (b.1 + 1)) + 1)))] u ?_)))))))))))
   obtain ⟨ae, U, hm⟩ := gx_bind hm
   refine wV (elemP d (b.2.1.toNat * 3)) u (eI (B.rd y 0 (by kernel_rfl)) rfl U) (wV (elemP d (b.2.1.toNat * 3 + 2)) u (eF 2 (b.2.1.toNat * 3) 2 (B.rd y 0 (by kernel_rfl)) D) (wE false 1 b.2.1.toNat 2 (b.2.1.toNat * 3 + 2) (⟨(⟨b.1, c.Irq, c.Priority⟩ : Slot).State, w64 (b.1 + 1), (⟨b.1, c.Irq, c.Priority⟩ : Slot).Priority⟩ : Slot) (⟨(⟨(⟨b.1, c.Irq, c.Priority⟩ : Slot).State, w64 (b.1 + 1), (⟨b.1, c.Irq, c.Priority⟩ : Slot).Priority⟩ : Slot).State, (⟨(⟨b.1, c.Irq, c.Priority⟩ : Slot).State, w64 (b.1 + 1), (⟨b.1, c.Irq, c.Priority⟩ : Slot).Priority⟩ : Slot).Irq, w64 ((w64 (b.1 + 1)) + 1)⟩ : Slot) (iv (w64 ((w64 (b.1 + 1)) + 1))) 0 y B (gxIdx_spec D).2 ?_))
   intro G V Q H
   have Z := gxIdx_put (⟨(⟨(⟨b.1, c.Irq, c.Priority⟩ : Slot).State, w64 (b.1 + 1), (⟨b.1, c.Irq, c.Priority⟩ : Slot).Priority⟩ : Slot).State, (⟨(⟨b.1, c.Irq, c.Priority⟩ : Slot).State, w64 (b.1 + 1), (⟨b.1, c.Irq, c.Priority⟩ : Slot).Priority⟩ : Slot).Irq, w64 ((w64 (b.1 + 1)) + 1)⟩ : Slot) D
   refine wX 0 (.slice d ((b.2.2.set b.2.1.toNat (⟨b.1, c.Irq, c.Priority⟩ : Slot)).set b.2.1.toNat (⟨(⟨b.1, c.Irq, c.Priority⟩ : Slot).State, w64 (b.1 + 1), (⟨b.1, c.Irq, c.Priority⟩ : Slot).Priority⟩ : Slot)).length f) (.slice d (((b.2.2.set b.2.1.toNat (⟨b.1, c.Irq, c.Priority⟩ : Slot)).set b.2.1.toNat (⟨(⟨b.1, c.Irq, c.Priority⟩ : Slot).State, w64 (b.1 + 1), (⟨b.1, c.Irq, c.Priority⟩ : Slot).Priority⟩ : Slot)).set b.2.1.toNat (⟨(⟨(⟨b.1, c.Irq, c.Priority⟩ : Slot).State, w64 (b.1 + 1), (⟨b.1, c.Irq, c.Priority⟩ : Slot).Priority⟩ : Slot).State, (⟨(⟨b.1, c.Irq, c.Priority⟩ : Slot).State, w64 (b.1 + 1), (⟨b.1, c.Irq, c.Priority⟩ : Slot).Priority⟩ : Slot).Irq, w64 ((w64 (b.1 + 1)) + 1)⟩ : Slot)).length f) (by rw [@List.length_set _ ((b.2.2.set b.2.1.toNat (⟨b.1, c.Irq, c.Priority⟩ : Slot)).set b.2.1.toNat (⟨(⟨b.1, c.Irq, c.Priority⟩ : Slot).State, w64 (b.1 + 1), (⟨b.1, c.Irq, c.Priority⟩ : Slot).Priority⟩ : Slot)) b.2.1.toNat (⟨(⟨(⟨b.1, c.Irq, c.Priority⟩ : Slot).State, w64 (b.1 + 1), (⟨b.1, c.Irq, c.Priority⟩ : Slot).Priority⟩ : Slot).State, (⟨(⟨b.1, c.Irq, c.Priority⟩ : Slot).State, w64 (b.1 + 1), (⟨b.1, c.Irq, c.Priority⟩ : Slot).Priority⟩ : Slot).Irq, w64 ((w64 (b.1 + 1)) + 1)⟩ : Slot)]) (wX 26 (.slice d ((b.2.2.set b.2.1.toNat (⟨b.1, c.Irq, c.Priority⟩ : Slot)).set b.2.1.toNat (⟨(⟨b.1, c.Irq, c.Priority⟩ : Slot).State, w64 (b.1 + 1), (⟨b.1, c.Irq, c.Priority⟩ : Slot).Priority⟩ : Slot)).length f) (.slice d (((b.2.2.set b.2.1.toNat (⟨b.1, c.Irq, c.Priority⟩ : Slot)).set b.2.1.toNat (⟨(⟨b.1, c.Irq, c.Priority⟩ : Slot).State, w64 (b.1 + 1), (⟨b.1, c.Irq, c.Priority⟩ : Slot).Priority⟩ : Slot)).set b.2.1.toNat (⟨(⟨(⟨b.1, c.Irq, c.Priority⟩ : Slot).State, w64 (b.1 + 1), (⟨b.1, c.Irq, c.Priority⟩ : Slot).Priority⟩ : Slot).State, (⟨(⟨b.1, c.Irq, c.Priority⟩ : Slot).State, w64 (b.1 + 1), (⟨b.1, c.Irq, c.Priority⟩ : Slot).Priority⟩ : Slot).Irq, w64 ((w64 (b.1 + 1)) + 1)⟩ : Slot)).length f) (by rw [@List.length_set _ ((b.2.2.set b.2.1.toNat (⟨b.1, c.Irq, c.Priority⟩ : Slot)).set b.2.1.toNat (⟨(⟨b.1, c.Irq, c.Priority⟩ : Slot).State, w64 (b.1 + 1), (⟨b.1, c.Irq, c.Priority⟩ : Slot).Priority⟩ : Slot)) b.2.1.toNat (⟨(⟨(⟨b.1, c.Irq, c.Priority⟩ : Slot).State, w64 (b.1 + 1), (⟨b.1, c.Irq, c.Priority⟩ : Slot).Priority⟩ : Slot).State, (⟨(⟨b.1, c.Irq, c.Priority⟩ : Slot).State, w64 (b.1 + 1), (⟨b.1, c.Irq, c.Priority⟩ : Slot).Priority⟩ : Slot).Irq, w64 ((w64 (b.1 + 1)) + 1)⟩ : Slot)]) (W_nil (N_then (G_region (wR 3 [(0, .slice d (((b.2.2.set b.2.1.toNat (⟨b.1, c.Irq, c.Priority⟩ : Slot)).set b.2.1.toNat (⟨(⟨b.1, c.Irq, c.Priority⟩ : Slot).State, w64 (b.1 + 1), (⟨b.1, c.Irq, c.Priority⟩ : Slot).Priority⟩ : Slot)).set b.2.1.toNat (⟨(⟨(⟨b.1, c.Irq, c.Priority⟩ : Slot).State, w64 (b.1 + 1), (⟨b.1, c.Irq, c.Priority⟩ : Slot).Priority⟩ : Slot).State, (⟨(⟨b.1, c.Irq, c.Priority⟩ : Slot).State, w64 (b.1 + 1), (⟨b.1, c.Irq, c.Priority⟩ : Slot).Priority⟩ : Slot).Irq, w64 ((w64 (b.1 + 1)) + 1)⟩ : Slot)).length f), (1, iv (w64 ((w64 ((w64 (b.1 + 1)) + 1)) + 1))), (5, iv b.2.1)] G (W_nil (N_block (N_then (G_region (wR 3 [(0, .slice d (((b.2.2.set b.2.1.toNat (⟨b.1, c.Irq, c.Priority⟩ : Slot)).set b.2.1.toNat (⟨(⟨b.1, c.Irq, c.Priority⟩ : Slot).State, w64 (b.1 + 1), (⟨b.1, c.Irq, c.Priority⟩ : Slot).Priority⟩ : Slot)).set b.2.1.toNat (⟨(⟨(⟨b.1, c.Irq, c.Priority⟩ : Slot).State, w64 (b.1 + 1), (⟨b.1, c.Irq, c.Priority⟩ : Slot).Priority⟩ : Slot).State, (⟨(⟨b.1, c.Irq, c.Priority⟩ : Slot).State, w64 (b.1 + 1), (⟨b.1, c.Irq, c.Priority⟩ : Slot).Priority⟩ : Slot).Irq, w64 ((w64 (b.1 + 1)) + 1)⟩ : Slot)).length f), (1, iv (w64 ((w64 ((w64 (b.1 + 1)) + 1)) + 1))), (5, iv (w64 (b.2.1 + 1)))] G ?_))))))))))
   refine W_nil ?_
   obtain rfl := Option.some.inj hm
   exact N_loop fun a ha => ⟨_, rfl, V, Q, (List.length_set.trans (List.length_set.trans (List.length_set.trans E))), H.pk [0], ha.s⟩
  refine gF z (G_exit (N_then_exit (N_then_exit (N_block_eq ?_))))
  obtain rfl := Option.some.inj hm
  obtain rfl := R _ rfl
  exact N_meet fun a ha => ⟨m, k, E, j.pk [0], ha.s⟩
 intro Y W ⟨n, P, L, I, K⟩
 refine N_use K ?_
 have hm := N
 refine N_then (G_seq (G_region (wR 2 [(4, iv i.1)] W (W_nil (N_then (G_ret ?_))))))
 obtain rfl := Option.some.inj hm
 exact N_ret [iv i.1] (rC RVs_nil) (⟨n, rfl, P, L, I.pk [0]⟩)
theorem c_l_markWaiterS (w : World) (h : List Waiter) (c : Option Addr) (f : Nat) (g : Seg) (J : ownS encWaiter h c f g) (u : Int) (hA : ∀ q ∈ List.flatten [g], w.heap[q.1]? = some q.2) (hN : (idsOf [g]).Nodup) {r : Int × (List Waiter)} (hm : M.l_markWaiterS h u = some r) :
  Calls Tryz.prog 126 #[.slice c h.length f, iv u] w fun e w' => ∃ (B : Seg), e = .returned (iv r.1) ∧ ownS encWaiter r.2 c f B ∧ r.2.length = h.length ∧ Mem (idsOf [g]) w w' [B] := by
 unfold M.l_markWaiterS at hm
 refine cE Tryz.func126 ?_
 have M0 := Mem.start' w [g] hA hN
 refine G_seq (G_region (wR 1 [(0, .slice c h.length f), (1, iv u)] w (W_nil (N_then (G_seq (G_seq (G_region (wR 1 [(0, .slice c h.length f), (1, iv u), (5, iv 0)] w (W_nil (N_then ?_))))))))))
 obtain ⟨i, O, I⟩ := gx_bind hm
 refine G_meet (fun a w' => ∃ (n : Seg), ownS encWaiter i.2 c f n ∧ i.2.length = h.length ∧ Mem (idsOf [g]) w w' [n] ∧ Sat Tryz.f126.ntmps [(1, iv i.1)] a) ?_ ?_
 ·refine G_block (G_while (σ := Int × Int × List Waiter) (ρ := Int × List Waiter) (fun b a w' => ∃ (m : Seg), ownS encWaiter b.2.2 c f m ∧ b.2.2.length = h.length ∧ Mem (idsOf [g]) w w' [m] ∧ Sat Tryz.f126.ntmps [(0, .slice c b.2.2.length f), (1, iv b.1), (5, iv b.2.1)] a) O (fun a ha => ⟨g, J, rfl, M0.pk [0], ha.s⟩) ?_)
  clear hm
  intro b W hm N S o ⟨m, k, A, j, F⟩
  refine G_use F (G_seq (G_seq (G_region (wR 4 [(0, .slice c b.2.2.length f), (1, iv b.1), (5, iv b.2.1), (9, .bool (decide (b.2.1 < (b.2.2.length : Int))))] o (W_nil (N_then ?_))))))
  rcases gx_bif hm with ⟨x, hm⟩ | ⟨x, hm⟩
  ·refine gT x (G_skip (N_then (G_seq (G_block (G_seq (G_region (wR 3 [(0, .slice c b.2.2.length f), (1, iv b.1), (5, iv b.2.1), (12, .slice c b.2.2.length f), (13, iv b.2.1), (14, iv b.1)] o ?_)))))))
   obtain ⟨d, l, hm⟩ := gx_bind hm
   refine wV (elemP c (b.2.1.toNat * 2)) o (eI (k.rd j 0 (by kernel_rfl)) rfl l) (wV (elemP c (b.2.1.toNat * 2 + 0)) o (eF 0 (b.2.1.toNat * 2) 0 (k.rd j 0 (by kernel_rfl)) l) (wE false 1 b.2.1.toNat 0 (b.2.1.toNat * 2 + 0) d (⟨b.1, d.Priority⟩ : Waiter) (iv b.1) 0 j k (gxIdx_spec l).2 ?_))
   intro t V y v
   have z := gxIdx_put (⟨b.1, d.Priority⟩ : Waiter) l
   refine wX 0 (.slice c b.2.2.length f) (.slice c (b.2.2.set b.2.1.toNat (⟨b.1, d.Priority⟩ : Waiter)).length f) (by rw [@List.length_set _ b.2.2 b.2.1.toNat (⟨b.1, d.Priority⟩ : Waiter)]) (wX 12 (.slice c b.2.2.length f) (.slice c (b.2.2.set b.2.1.toNat (⟨b.1, d.Priority⟩ : Waiter)).length f) (by rw [@List.length_set _ b.2.2 b.2.1.toNat (⟨b.1, d.Priority⟩ : Waiter)]) (W_nil (N_then (G_seq (G_region (wR 3 [(0, .slice c (b.2.2.set b.2.1.toNat (⟨b.1, d.Priority⟩ : Waiter)).length f), (1, iv (w64 (b.1 + 1))), (5, iv b.2.1)] t (W_nil (N_then (G_seq (G_region (wR 3 [(0, .slice c (b.2.2.set b.2.1.toNat (⟨b.1, d.Priority⟩ : Waiter)).length f), (1, iv (w64 (b.1 + 1))), (5, iv b.2.1), (19, .slice c (b.2.2.set b.2.1.toNat (⟨b.1, d.Priority⟩ : Waiter)).length f), (20, iv b.2.1), (21, iv (w64 (b.1 + 1)))] t ?_)))))))))))
   obtain ⟨X, P, hm⟩ := gx_bind hm
   refine wV (elemP c (b.2.1.toNat * 2)) t (eI (y.rd v 0 (by kernel_rfl)) rfl P) (wV (elemP c (b.2.1.toNat * 2 + 1)) t (eF 1 (b.2.1.toNat * 2) 1 (y.rd v 0 (by kernel_rfl)) z) (wE false 1 b.2.1.toNat 1 (b.2.1.toNat * 2 + 1) (⟨b.1, d.Priority⟩ : Waiter) (⟨(⟨b.1, d.Priority⟩ : Waiter).Irq, w64 (b.1 + 1)⟩ : Waiter) (iv (w64 (b.1 + 1))) 0 v y (gxIdx_spec z).2 ?_))
   intro C Q L D
   have U := gxIdx_put (⟨(⟨b.1, d.Priority⟩ : Waiter).Irq, w64 (b.1 + 1)⟩ : Waiter) z
   refine wX 0 (.slice c (b.2.2.set b.2.1.toNat (⟨b.1, d.Priority⟩ : Waiter)).length f) (.slice c ((b.2.2.set b.2.1.toNat (⟨b.1, d.Priority⟩ : Waiter)).set b.2.1.toNat (⟨(⟨b.1, d.Priority⟩ : Waiter).Irq, w64 (b.1 + 1)⟩ : Waiter)).length f) (by rw [@List.length_set _ (b.2.2.set b.2.1.toNat (⟨b.1, d.Priority⟩ : Waiter)) b.2.1.toNat (⟨(⟨b.1, d.Priority⟩ : Waiter).Irq, w64 (b.1 + 1)⟩ : Waiter)]) (wX 19 (.slice c (b.2.2.set b.2.1.toNat (⟨b.1, d.Priority⟩ : Waiter)).length f) (.slice c ((b.2.2.set b.2.1.toNat (⟨b.1, d.Priority⟩ : Waiter)).set b.2.1.toNat (⟨(⟨b.1, d.Priority⟩ : Waiter).Irq, w64 (b.1 + 1)⟩ : Waiter)).length f) (by rw [@List.length_set _ (b.2.2.set b.2.1.toNat (⟨b.1, d.Priority⟩ : Waiter)) b.2.1.toNat (⟨(⟨b.1, d.Priority⟩ : Waiter).Irq, w64 (b.1 + 1)⟩ : Waiter)]) (W_nil (N_then (G_region (wR 3 [(0, .slice c ((b.2.2.set b.2.1.toNat (⟨b.1, d.Priority⟩ : Waiter)).set b.2.1.toNat (⟨(⟨b.1, d.Priority⟩ : Waiter).Irq, w64 (b.1 + 1)⟩ : Waiter)).length f), (1, iv (w64 ((w64 (b.1 + 1)) + 1))), (5, iv b.2.1)] C (W_nil (N_block (N_then (G_region (wR 3 [(0, .slice c ((b.2.2.set b.2.1.toNat (⟨b.1, d.Priority⟩ : Waiter)).set b.2.1.toNat (⟨(⟨b.1, d.Priority⟩ : Waiter).Irq, w64 (b.1 + 1)⟩ : Waiter)).length f), (1, iv (w64 ((w64 (b.1 + 1)) + 1))), (5, iv (w64 (b.2.1 + 1)))] C (W_nil ?_)))))))))))
   obtain rfl := Option.some.inj hm
   exact N_loop fun a ha => ⟨_, rfl, Q, L, (List.length_set.trans (List.length_set.trans A)), D.pk [0], ha.s⟩
  refine gF x (G_exit (N_then_exit (N_then_exit (N_block_eq ?_))))
  obtain rfl := Option.some.inj hm
  obtain rfl := N _ rfl
  exact N_meet fun a ha => ⟨m, k, A, j.pk [0], ha.s⟩
 intro T R ⟨n, K, H, E, G⟩
 refine N_use G ?_
 have hm := I
 refine N_then (G_seq (G_region (wR 2 [(4, iv i.1)] R (W_nil (N_then (G_ret ?_))))))
 obtain rfl := Option.some.inj hm
 exact N_ret [iv i.1] (rC RVs_nil) (⟨n, rfl, K, H, E.pk [0]⟩)
theorem c_l_markInterfaceS (w : World) (A : List Interface) (g : Option Addr) (h : Nat) (t : Seg) (u : Seg) (b5 : ownD deepInterface A g h t u) (am : Int) (hA : ∀ q ∈ List.flatten [t, u], w.heap[q.1]? = some q.2) (hN : (idsOf [t, u]).Nodup) {r : Int × (List Interface)} (hm : M.l_markInterfaceS A am = some r) :
  Calls Tryz.prog 70 #[.slice g A.length h, iv am] w fun e w' => ∃ (a4 : Seg) (a5 : Seg), e = .returned (iv r.1) ∧ ownD deepInterface r.2 g h a4 a5 ∧ r.2.length = A.length ∧ Mem (idsOf [t, u]) w w' [a4, a5] := by
 unfold M.l_markInterfaceS at hm
 refine cE Tryz.func70 ?_
 have M0 := Mem.start' w [t, u] hA hN
 refine G_seq (G_region (wR 1 [(0, .slice g A.length h), (1, iv am)] w (W_nil (N_then (G_seq (G_seq (G_region (wR 1 [(0, .slice g A.length h), (1, iv am), (5, iv 0)] w (W_nil (N_then ?_))))))))))
 obtain ⟨K, dd, b4⟩ := gx_bind hm
 refine G_meet (fun a w' => ∃ (ad : Seg), ∃ (ae : Seg), ownD deepInterface K.2 g h ad ae ∧ K.2.length = A.length ∧ Mem (idsOf [t, u]) w w' [ad, ae] ∧ Sat Tryz.f70.ntmps [(1, iv K.1)] a) ?_ ?_
 ·refine G_block (G_while (σ := Int × Int × List Interface) (ρ := Int × List Interface) (fun b a w' => ∃ (ac : Seg), ∃ (O : Seg), ownD deepInterface b.2.2 g h ac O ∧ b.2.2.length = A.length ∧ Mem (idsOf [t, u]) w w' [ac, O] ∧ Sat Tryz.f70.ntmps [(0, .slice g b.2.2.length h), (1, iv b.1), (5, iv b.2.1)] a) dd (fun a ha => ⟨t, u, b5, rfl, M0.pk [0, 1], ha.s⟩) ?_)
  clear hm
  intro b d5 hm co dw ak ⟨ac, O, a3, a0, R, bt⟩
  refine G_use bt (G_seq (G_seq (G_region (wR 4 [(0, .slice g b.2.2.length h), (1, iv b.1), (5, iv b.2.1), (9, .bool (decide (b.2.1 < (b.2.2.length : Int))))] ak (W_nil (N_then ?_))))))
  rcases gx_bif hm with ⟨ar, hm⟩ | ⟨ar, hm⟩
  ·refine gT ar (G_skip (N_then (G_seq (G_block (G_seq (G_region (wR 3 [(0, .slice g b.2.2.length h), (1, iv b.1), (5, iv b.2.1), (12, .slice g b.2.2.length h), (13, iv b.2.1), (14, iv b.1)] ak ?_)))))))
   obtain ⟨c, de, hm⟩ := gx_bind hm
   obtain ⟨d6, U, ax, bz⟩ := id a3
   obtain ⟨aq, H⟩ := gxIdx_fst U de
   refine wV (elemP g (b.2.1.toNat * 4)) ak (eI (ax.rd R 0 (by kernel_rfl)) (len_fst U) H) (wV (elemP g (b.2.1.toNat * 4 + 0)) ak (eF 0 (b.2.1.toNat * 4) 0 (ax.rd R 0 (by kernel_rfl)) H) (wE false 1 b.2.1.toNat 0 (b.2.1.toNat * 4 + 0) (c, aq) ((⟨b.1, c.Stack, (⟨c.Queue.Slots, c.Queue.Waiting⟩ : Queue)⟩ : Interface), aq) (iv b.1) 0 R ax (gxIdx_spec H).2 ?_))
   intro D x b7 S
   have b8 : ownD deepInterface (b.2.2.set b.2.1.toNat (⟨b.1, c.Stack, (⟨c.Queue.Slots, c.Queue.Waiting⟩ : Queue)⟩ : Interface)) g h x O := ⟨_, set_fst U b.2.1.toNat ((⟨b.1, c.Stack, (⟨c.Queue.Slots, c.Queue.Waiting⟩ : Queue)⟩ : Interface), aq), b7, (by rw [flatMap_setSame (gxIdx_spec H).2 (by kernel_rfl)]; exact bz)⟩
   have dy := gxIdx_put (⟨b.1, c.Stack, (⟨c.Queue.Slots, c.Queue.Waiting⟩ : Queue)⟩ : Interface) (gxIdx_down U H)
   refine wX 0 (.slice g b.2.2.length h) (.slice g (b.2.2.set b.2.1.toNat (⟨b.1, c.Stack, (⟨c.Queue.Slots, c.Queue.Waiting⟩ : Queue)⟩ : Interface)).length h) (by rw [@List.length_set _ b.2.2 b.2.1.toNat (⟨b.1, c.Stack, (⟨c.Queue.Slots, c.Queue.Waiting⟩ : Queue)⟩ : Interface)]) (wX 12 (.slice g b.2.2.length h) (.slice g (b.2.2.set b.2.1.toNat (⟨b.1, c.Stack, (⟨c.Queue.Slots, c.Queue.Waiting⟩ : Queue)⟩ : Interface)).length h) (by rw [@List.length_set _ b.2.2 b.2.1.toNat (⟨b.1, c.Stack, (⟨c.Queue.Slots, c.Queue.Waiting⟩ : Queue)⟩ : Interface)]) (W_nil (N_then (G_seq (G_region (wR 3 [(0, .slice g (b.2.2.set b.2.1.toNat (⟨b.1, c.Stack, (⟨c.Queue.Slots, c.Queue.Waiting⟩ : Queue)⟩ : Interface)).length h), (1, iv (w64 (b.1 + 1))), (5, iv b.2.1)] D (W_nil (N_then (G_seq (G_region (wR 2 [(0, .slice g (b.2.2.set b.2.1.toNat (⟨b.1, c.Stack, (⟨c.Queue.Slots, c.Queue.Waiting⟩ : Queue)⟩ : Interface)).length h), (1, iv (w64 (b.1 + 1))), (5, iv b.2.1), (19, .slice g (b.2.2.set b.2.1.toNat (⟨b.1, c.Stack, (⟨c.Queue.Slots, c.Queue.Waiting⟩ : Queue)⟩ : Interface)).length h), (20, iv b.2.1)] D ?_)))))))))))
   obtain ⟨d, df, hm⟩ := gx_bind hm
   obtain ⟨d7, V, T, b0⟩ := id b8
   obtain ⟨l, E⟩ := gxIdx_fst V df
   refine wV (elemP g (b.2.1.toNat * 4)) D (eI (T.rd S 0 (by kernel_rfl)) (len_fst V) E) (wV (elemP g (b.2.1.toNat * 4 + 1)) D (eF 1 (b.2.1.toNat * 4) 1 (T.rd S 0 (by kernel_rfl)) E) (wV (.slice ((l 0).1) d.Stack.length ((l 0).2)) D (eE false 1 1 (b.2.1.toNat * 4 + 1) (T.rd S 0 (by kernel_rfl)) E) (wR 1 [(0, .slice g (b.2.2.set b.2.1.toNat (⟨b.1, c.Stack, (⟨c.Queue.Slots, c.Queue.Waiting⟩ : Queue)⟩ : Interface)).length h), (1, iv (w64 (b.1 + 1))), (5, iv b.2.1), (23, .slice ((l 0).1) d.Stack.length ((l 0).2)), (24, iv (w64 (b.1 + 1)))] D ?_)))
   obtain ⟨Y, ds, aa, c1, bv, cp⟩ := b0.lens (gxIdx_spec E).2
   have bc := S.cut 1 (sa := Y) (sb := ds) (sc := aa) c1 (by kernel_rfl)
   obtain ⟨a6, di, c4, b9, ct⟩ := bv
   have bd := bc.cut 2 (sa := []) (sb := a6) (sc := di) c4 (by kernel_rfl)
   obtain ⟨ag, dj, c5, ca, cu⟩ := ct
   have be := bd.cut 5 (sa := []) (sb := ag) (sc := dj) c5 (by kernel_rfl)
   obtain ⟨ah, dk, c6, cb, d2⟩ := cu
   have an := be.cut 7 (sa := []) (sb := ah) (sc := dk) c6 (by kernel_rfl)
   obtain ⟨k, cs, hm⟩ := gx_bind hm
   refine wC 21 #[.slice ((l 0).1) d.Stack.length ((l 0).2), iv (w64 (b.1 + 1))] ((c_l_markIntS D d.Stack ((l 0).1) ((l 0).2) a6 b9 (w64 (b.1 + 1)) (an.hasPick [4]) (an.nodupPick [4] (by kernel_rfl)) cs).mono ?_)
   rintro e_ y ⟨ay, rfl, cc, au, a9⟩
   have bf := an.callF' [4] [0, 1, 2, 3, 5, 6, 7, 8, 9] (by kernel_rfl) a9
   refine ⟨_, rfl, ?_⟩
   refine wX 23 (.slice ((l 0).1) d.Stack.length ((l 0).2)) (.slice ((l 0).1) k.2.length ((l 0).2)) (by first | rw [au] | rw [au]) ?_
   have bg : Mem (idsOf [t, u]) w y [x, [], [], [], Y, ay, ag, ah, aa] := bf.pk [0, 2, 4, 6, 1, 9, 5, 7, 3]
   have F : Mem (idsOf [t, u]) w y [x, [], [], [], (Y ++ ((ay ++ (ag ++ (ah ++ []))) ++ aa))] := bg.regroup (by simp)
   have cd : ownD deepInterface ((b.2.2.set b.2.1.toNat (⟨b.1, c.Stack, (⟨c.Queue.Slots, c.Queue.Waiting⟩ : Queue)⟩ : Interface)).set b.2.1.toNat (⟨d.Mask, k.2, (⟨d.Queue.Slots, d.Queue.Waiting⟩ : Queue)⟩ : Interface)) g h x (Y ++ ((ay ++ (ag ++ (ah ++ []))) ++ aa)) := ⟨_, set_fst V b.2.1.toNat ((⟨d.Mask, k.2, (⟨d.Queue.Slots, d.Queue.Waiting⟩ : Queue)⟩ : Interface), l), (T.setSame (z' := ((⟨d.Mask, k.2, (⟨d.Queue.Slots, d.Queue.Waiting⟩ : Queue)⟩ : Interface), l)) (gxIdx_spec E).2 (by show ([iv d.Mask, .slice ((l 0).1) k.2.length ((l 0).2), .slice ((l 1).1) d.Queue.Slots.length ((l 1).2), .slice ((l 2).1) d.Queue.Waiting.length ((l 2).2)] : List Value) = [iv d.Mask, .slice ((l 0).1) d.Stack.length ((l 0).2), .slice ((l 1).1) d.Queue.Slots.length ((l 1).2), .slice ((l 2).1) d.Queue.Waiting.length ((l 2).2)]; rw [au])), cp ((⟨d.Mask, k.2, (⟨d.Queue.Slots, d.Queue.Waiting⟩ : Queue)⟩ : Interface), l) _ (ownI_cons (i := ⟨Int, Gx.encI, _, _, _⟩) cc (ownI_cons (i := ⟨Slot, encSlot, _, _, _⟩) ca (ownI_cons (i := ⟨Waiter, encWaiter, _, _, _⟩) cb ownI_nil)))⟩
   have dz := gxIdx_put (⟨d.Mask, k.2, (⟨d.Queue.Slots, d.Queue.Waiting⟩ : Queue)⟩ : Interface) (gxIdx_down V E)
   refine wX 0 (.slice g (b.2.2.set b.2.1.toNat (⟨b.1, c.Stack, (⟨c.Queue.Slots, c.Queue.Waiting⟩ : Queue)⟩ : Interface)).length h) (.slice g ((b.2.2.set b.2.1.toNat (⟨b.1, c.Stack, (⟨c.Queue.Slots, c.Queue.Waiting⟩ : Queue)⟩ : Interface)).set b.2.1.toNat (⟨d.Mask, k.2, (⟨d.Queue.Slots, d.Queue.Waiting⟩ : Queue)⟩ : Interface)).length h) (by rw [@List.length_set _ (b.2.2.set b.2.1.toNat (⟨b.1, c.Stack, (⟨c.Queue.Slots, c.Queue.Waiting⟩ : Queue)⟩ : Interface)) b.2.1.toNat (⟨d.Mask, k.2, (⟨d.Queue.Slots, d.Queue.Waiting⟩ : Queue)⟩ : Interface)]) (wR 1 [(0, .slice g ((b.2.2.set b.2.1.toNat (⟨b.1, c.Stack, (⟨c.Queue.Slots, c.Queue.Waiting⟩ : Queue)⟩ : Interface)).set b.2.1.toNat (⟨d.Mask, k.2, (⟨d.Queue.Slots, d.Queue.Waiting⟩ : Queue)⟩ : Interface)).length h), (1, iv k.1), (5, iv b.2.1)] y (W_nil (N_then (G_seq (G_region (wR 2 [(0, .slice g ((b.2.2.set b.2.1.toNat (⟨b.1, c.Stack, (⟨c.Queue.Slots, c.Queue.Waiting⟩ : Queue)⟩ : Interface)).set b.2.1.toNat (⟨d.Mask, k.2, (⟨d.Queue.Slots, d.Queue.Waiting⟩ : Queue)⟩ : Interface)).length h), (1, iv k.1), (5, iv b.2.1), (26, .slice g ((b.2.2.set b.2.1.toNat (⟨b.1, c.Stack, (⟨c.Queue.Slots, c.Queue.Waiting⟩ : Queue)⟩ : Interface)).set b.2.1.toNat (⟨d.Mask, k.2, (⟨d.Queue.Slots, d.Queue.Waiting⟩ : Queue)⟩ : Interface)).length h), (27, iv b.2.1)] y ?_))))))
   obtain ⟨f, dg, hm⟩ := gx_bind hm
   obtain ⟨d8, W, I, b1⟩ := id cd
   obtain ⟨m, B⟩ := gxIdx_fst W dg
   refine wV (elemP g (b.2.1.toNat * 4)) y (eI (I.rd F 0 (by kernel_rfl)) (len_fst W) B) (wV (elemP g (b.2.1.toNat * 4 + 2)) y (eF 2 (b.2.1.toNat * 4) 2 (I.rd F 0 (by kernel_rfl)) B) (wV (elemP g (b.2.1.toNat * 4 + 2 + 0)) y (eF 0 (b.2.1.toNat * 4 + 2) 0 (I.rd F 0 (by kernel_rfl)) B) (wV (.slice ((m 1).1) f.Queue.Slots.length ((m 1).2)) y (eE false 1 2 (b.2.1.toNat * 4 + 2 + 0) (I.rd F 0 (by kernel_rfl)) B) (wR 1 [(0, .slice g ((b.2.2.set b.2.1.toNat (⟨b.1, c.Stack, (⟨c.Queue.Slots, c.Queue.Waiting⟩ : Queue)⟩ : Interface)).set b.2.1.toNat (⟨d.Mask, k.2, (⟨d.Queue.Slots, d.Queue.Waiting⟩ : Queue)⟩ : Interface)).length h), (1, iv k.1), (5, iv b.2.1), (31, .slice ((m 1).1) f.Queue.Slots.length ((m 1).2)), (32, iv k.1)] y ?_))))
   obtain ⟨Z, dt, ab, c2, bw, cq⟩ := b1.lens (gxIdx_spec B).2
   have bh := F.cut 4 (sa := Z) (sb := dt) (sc := ab) c2 (by kernel_rfl)
   obtain ⟨ai, dl, c7, ce, cw⟩ := bw
   have bi := bh.cut 5 (sa := []) (sb := ai) (sc := dl) c7 (by kernel_rfl)
   obtain ⟨a7, dm, c8, cf, cx⟩ := cw
   have bj := bi.cut 8 (sa := []) (sb := a7) (sc := dm) c8 (by kernel_rfl)
   obtain ⟨aj, dn, c9, cg, d3⟩ := cx
   have ao := bj.cut 10 (sa := []) (sb := aj) (sc := dn) c9 (by kernel_rfl)
   obtain ⟨o, cv, hm⟩ := gx_bind hm
   refine wC 125 #[.slice ((m 1).1) f.Queue.Slots.length ((m 1).2), iv k.1] ((c_l_markSlotS y f.Queue.Slots ((m 1).1) ((m 1).2) a7 cf k.1 (ao.hasPick [9]) (ao.nodupPick [9] (by kernel_rfl)) cv).mono ?_)
   rintro e_ z ⟨az, rfl, ch, av, ba⟩
   have bk := ao.callF' [9] [0, 1, 2, 3, 4, 5, 6, 7, 8, 10, 11, 12] (by kernel_rfl) ba
   refine ⟨_, rfl, ?_⟩
   refine wX 31 (.slice ((m 1).1) f.Queue.Slots.length ((m 1).2)) (.slice ((m 1).1) o.2.length ((m 1).2)) (by first | rw [av] | rw [av]) ?_
   have bl : Mem (idsOf [t, u]) w z [x, [], [], [], [], [], [], Z, ai, az, aj, ab] := bk.pk [0, 1, 2, 3, 5, 8, 9, 4, 7, 12, 10, 6]
   have G : Mem (idsOf [t, u]) w z [x, [], [], [], [], [], [], (Z ++ ((ai ++ (az ++ (aj ++ []))) ++ ab))] := bl.regroup (by simp)
   have ci : ownD deepInterface (((b.2.2.set b.2.1.toNat (⟨b.1, c.Stack, (⟨c.Queue.Slots, c.Queue.Waiting⟩ : Queue)⟩ : Interface)).set b.2.1.toNat (⟨d.Mask, k.2, (⟨d.Queue.Slots, d.Queue.Waiting⟩ : Queue)⟩ : Interface)).set b.2.1.toNat (⟨f.Mask, f.Stack, (⟨o.2, f.Queue.Waiting⟩ : Queue)⟩ : Interface)) g h x (Z ++ ((ai ++ (az ++ (aj ++ []))) ++ ab)) := ⟨_, set_fst W b.2.1.toNat ((⟨f.Mask, f.Stack, (⟨o.2, f.Queue.Waiting⟩ : Queue)⟩ : Interface), m), (I.setSame (z' := ((⟨f.Mask, f.Stack, (⟨o.2, f.Queue.Waiting⟩ : Queue)⟩ : Interface), m)) (gxIdx_spec B).2 (by show ([iv f.Mask, .slice ((m 0).1) f.Stack.length ((m 0).2), .slice ((m 1).1) o.2.length ((m 1).2), .slice ((m 2).1) f.Queue.Waiting.length ((m 2).2)] : List Value) = [iv f.Mask, .slice ((m 0).1) f.Stack.length ((m 0).2), .slice ((m 1).1) f.Queue.Slots.length ((m 1).2), .slice ((m 2).1) f.Queue.Waiting.length ((m 2).2)]; rw [av])), cq ((⟨f.Mask, f.Stack, (⟨o.2, f.Queue.Waiting⟩ : Queue)⟩ : Interface), m) _ (ownI_cons (i := ⟨Int, Gx.encI, _, _, _⟩) ce (ownI_cons (i := ⟨Slot, encSlot, _, _, _⟩) ch (ownI_cons (i := ⟨Waiter, encWaiter, _, _, _⟩) cg ownI_nil)))⟩
   have d0 := gxIdx_put (⟨f.Mask, f.Stack, (⟨o.2, f.Queue.Waiting⟩ : Queue)⟩ : Interface) (gxIdx_down W B)
   refine wX 0 (.slice g ((b.2.2.set b.2.1.toNat (⟨b.1, c.Stack, (⟨c.Queue.Slots, c.Queue.Waiting⟩ : Queue)⟩ : Interface)).set b.2.1.toNat (⟨d.Mask, k.2, (⟨d.Queue.Slots, d.Queue.Waiting⟩ : Queue)⟩ : Interface)).length h) (.slice g (((b.2.2.set b.2.1.toNat (⟨b.1, c.Stack, (⟨c.Queue.Slots, c.Queue.Waiting⟩ : Queue)⟩ : Interface)).set b.2.1.toNat (⟨d.Mask, k.2, (⟨d.Queue.Slots, d.Queue.Waiting⟩ : Queue)⟩ : Interface)).set b.2.1.toNat (⟨f.Mask, f.Stack, (⟨o.2, f.Queue.Waiting⟩ : Queue)⟩ : Interface)).length h) (by rw [@List.length_set _ ((b.2.2.set b.2.1.toNat (⟨b.1, c.Stack, (⟨c.Queue.Slots, c.Queue.Waiting⟩ : Queue)⟩ : Interface)).set b.2.1.toNat (⟨d.Mask, k.2, (⟨d.Queue.Slots, d.Queue.Waiting⟩ : Queue)⟩ : Interface)) b.2.1.toNat (⟨f.Mask, f.Stack, (⟨o.2, f.Queue.Waiting⟩ : Queue)⟩ : Interface)]) (wR 1 [(0, .slice g (((b.2.2.set b.2.1.toNat (⟨b.1, c.Stack, (⟨c.Queue.Slots, c.Queue.Waiting⟩ : Queue)⟩ : Interface)).set b.2.1.toNat (⟨d.Mask, k.2, (⟨d.Queue.Slots, d.Queue.Waiting⟩ : Queue)⟩ : Interface)).set b.2.1.toNat (⟨f.Mask, f.Stack, (⟨o.2, f.Queue.Waiting⟩ : Queue)⟩ : Interface)).length h), (1, iv o.1), (5, iv b.2.1)] z (W_nil (N_then (G_region (wR 2 [(0, .slice g (((b.2.2.set b.2.1.toNat (⟨b.1, c.Stack, (⟨c.Queue.Slots, c.Queue.Waiting⟩ : Queue)⟩ : Interface)).set b.2.1.toNat (⟨d.Mask, k.2, (⟨d.Queue.Slots, d.Queue.Waiting⟩ : Queue)⟩ : Interface)).set b.2.1.toNat (⟨f.Mask, f.Stack, (⟨o.2, f.Queue.Waiting⟩ : Queue)⟩ : Interface)).length h), (1, iv o.1), (5, iv b.2.1), (34, .slice g (((b.2.2.set b.2.1.toNat (⟨b.1, c.Stack, (⟨c.Queue.Slots, c.Queue.Waiting⟩ : Queue)⟩ : Interface)).set b.2.1.toNat (⟨d.Mask, k.2, (⟨d.Queue.Slots, d.Queue.Waiting⟩ : Queue)⟩ : Interface)).set b.2.1.toNat (⟨f.Mask, f.Stack, (⟨o.2, f.Queue.Waiting⟩ : Queue)⟩ : Interface)).length h), (35, iv b.2.1)] z ?_)))))
   obtain ⟨j, dh, hm⟩ := gx_bind hm
   obtain ⟨d9, X, J, b2⟩ := id ci
   obtain ⟨n, C⟩ := gxIdx_fst X dh
   refine wV (elemP g (b.2.1.toNat * 4)) z (eI (J.rd G 0 (by kernel_rfl)) (len_fst X) C) (wV (elemP g (b.2.1.toNat * 4 + 2)) z (eF 2 (b.2.1.toNat * 4) 2 (J.rd G 0 (by kernel_rfl)) C) (wV (elemP g (b.2.1.toNat * 4 + 2 + 1)) z (eF 1 (b.2.1.toNat * 4 + 2) 1 (J.rd G 0 (by kernel_rfl)) C) (wV (.slice ((n 2).1) j.Queue.Waiting.length ((n 2).2)) z (eE false 1 3 (b.2.1.toNat * 4 + 2 + 1) (J.rd G 0 (by kernel_rfl)) C) (wR 1 [(0, .slice g (((b.2.2.set b.2.1.toNat (⟨b.1, c.Stack, (⟨c.Queue.Slots, c.Queue.Waiting⟩ : Queue)⟩ : Interface)).set b.2.1.toNat (⟨d.Mask, k.2, (⟨d.Queue.Slots, d.Queue.Waiting⟩ : Queue)⟩ : Interface)).set b.2.1.toNat (⟨f.Mask, f.Stack, (⟨o.2, f.Queue.Waiting⟩ : Queue)⟩ : Interface)).length h), (1, iv o.1), (5, iv b.2.1), (39, .slice ((n 2).1) j.Queue.Waiting.length ((n 2).2)), (40, iv o.1)] z ?_))))
   obtain ⟨L, du, N, c3, bx, cr⟩ := b2.lens (gxIdx_spec C).2
   have bm := G.cut 7 (sa := L) (sb := du) (sc := N) c3 (by kernel_rfl)
   obtain ⟨P, dp, da, cj, cz⟩ := bx
   have bn := bm.cut 8 (sa := []) (sb := P) (sc := dp) da (by kernel_rfl)
   obtain ⟨Q, dq, db, ck, c0⟩ := cz
   have bo := bn.cut 11 (sa := []) (sb := Q) (sc := dq) db (by kernel_rfl)
   obtain ⟨a8, dr, dc, cl, d4⟩ := c0
   have ap := bo.cut 13 (sa := []) (sb := a8) (sc := dr) dc (by kernel_rfl)
   obtain ⟨v, cy, hm⟩ := gx_bind hm
   refine wC 126 #[.slice ((n 2).1) j.Queue.Waiting.length ((n 2).2), iv o.1] ((c_l_markWaiterS z j.Queue.Waiting ((n 2).1) ((n 2).2) a8 cl o.1 (ap.hasPick [14]) (ap.nodupPick [14] (by kernel_rfl)) cy).mono ?_)
   rintro e_ al ⟨af, rfl, cm, aw, bb⟩
   have bp := ap.callF' [14] [0, 1, 2, 3, 4, 5, 6, 7, 8, 9, 10, 11, 12, 13, 15] (by kernel_rfl) bb
   refine ⟨_, rfl, ?_⟩
   refine wX 39 (.slice ((n 2).1) j.Queue.Waiting.length ((n 2).2)) (.slice ((n 2).1) v.2.length ((n 2).2)) (by first | rw [aw] | rw [aw]) ?_
   have bq : Mem (idsOf [t, u]) w al [x, [], [], [], [], [], [], [], [], [], L, P, Q, af, N] := bp.pk [0, 1, 2, 3, 4, 5, 6, 8, 11, 13, 7, 10, 12, 15, 9]
   have br : Mem (idsOf [t, u]) w al [x, [], [], [], [], [], [], [], [], [], (L ++ ((P ++ (Q ++ (af ++ []))) ++ N))] := bq.regroup (by simp)
   have cn : ownD deepInterface ((((b.2.2.set b.2.1.toNat (⟨b.1, c.Stack, (⟨c.Queue.Slots, c.Queue.Waiting⟩ : Queue)⟩ : Interface)).set b.2.1.toNat (⟨d.Mask, k.2, (⟨d.Queue.Slots, d.Queue.Waiting⟩ : Queue)⟩ : Interface)).set b.2.1.toNat (⟨f.Mask, f.Stack, (⟨o.2, f.Queue.Waiting⟩ : Queue)⟩ : Interface)).set b.2.1.toNat (⟨j.Mask, j.Stack, (⟨j.Queue.Slots, v.2⟩ : Queue)⟩ : Interface)) g h x (L ++ ((P ++ (Q ++ (af ++ []))) ++ N)) := ⟨_, set_fst X b.2.1.toNat ((⟨j.Mask, j.Stack, (⟨j.Queue.Slots, v.2⟩ : Queue)⟩ : Interface), n), (J.setSame (z' := ((⟨j.Mask, j.Stack, (⟨j.Queue.Slots, v.2⟩ : Queue)⟩ : Interface), n)) (gxIdx_spec C).2 (by show ([iv j.Mask, .slice ((n 0).1) j.Stack.length ((n 0).2), .slice ((n 1).1) j.Queue.Slots.length ((n 1).2), .slice ((n 2).1) v.2.length ((n 2).2)] : List Value) = [iv j.Mask, .slice ((n 0).1) j.Stack.length ((n 0).2), .slice ((n 1).1) j.Queue.Slots.length ((n 1).2), .slice ((n 2).1) j.Queue.Waiting.length ((n 2).2)]; rw [aw])), cr ((⟨j.Mask, j.Stack, (⟨j.Queue.Slots, v.2⟩ : Queue)⟩ : Interface), n) _ (ownI_cons (i := ⟨Int, Gx.encI, _, _, _⟩) cj (ownI_cons (i := ⟨Slot, encSlot, _, _, _⟩) ck (ownI_cons (i := ⟨Waiter, encWaiter, _, _, _⟩) cm ownI_nil)))⟩
   have d1 := gxIdx_put (⟨j.Mask, j.Stack, (⟨j.Queue.Slots, v.2⟩ : Queue)⟩ : Interface) (gxIdx_down X C)
   refine wX 0 (.slice g (((b.2.2.set b.2.1.toNat (⟨b.1, c.Stack, (⟨c.Queue.Slots, c.Queue.Waiting⟩ : Queue)⟩ : Interface)).set b.2.1.toNat (⟨d.Mask, k.2, (⟨d.Queue.Slots, d.Queue.Waiting⟩ : Queue)⟩ : Interface)).set b.2.1.toNat (⟨f.Mask, f.Stack, (⟨o.2, f.Queue.Waiting⟩ : Queue)⟩ : Interface)).length h) (.slice g ((((b.2.2.set b.2.1.toNat (⟨b.1, c.Stack, (⟨c.Queue.Slots, c.Queue.Waiting⟩ : Queue)⟩ : Interface)).set b.2.1.toNat (⟨d.Mask, k.2, (⟨d.Queue.Slots, d.Queue.Waiting⟩ : Queue)⟩ : Interface)).set b.2.1.toNat (⟨f.Mask, f.Stack, (⟨o.2, f.Queue.Waiting⟩ : Queue)⟩ : Interface)).set b.2.1.toNat (⟨j.Mask, j.Stack, (⟨j.Queue.Slots, v.2⟩ : Queue)⟩ : Interface)).length h) (by rw [@List.length_set _ (((b.2.2.set b.2.1.toNat (⟨b.1, c.Stack, (⟨c.Queue.Slots, c.Queue.Waiting⟩ : Queue)⟩ : Interface)).set b.2.1.toNat (⟨d.Mask, k.2, (⟨d.Queue.Slots, d.Queue.Waiting⟩ : Queue)⟩ : Interface)).set b.2.1.toNat (⟨f.Mask, f.Stack, (⟨o.2, f.Queue.Waiting⟩ : Queue)⟩ : Interface)) b.2.1.toNat (⟨j.Mask, j.Stack, (⟨j.Queue.Slots, v.2⟩ : Queue)⟩ : Interface)]) (wR 1 [(0, .slice g ((((b.2.2.set b.2.1.toNat (⟨b.1, c.Stack, (⟨c.Queue.Slots, c.Queue.Waiting⟩ : Queue)⟩ : Interface)).set b.2.1.toNat (⟨d.Mask, k.2, (⟨d.Queue.Slots, d.Queue.Waiting⟩ : Queue)⟩ : Interface)).set b.2.1.toNat (⟨f.Mask, f.Stack, (⟨o.2, f.Queue.Waiting⟩ : Queue)⟩ : Interface)).set b.2.1.toNat (⟨j.Mask, j.Stack, (⟨j.Queue.Slots, v.2⟩ : Queue)⟩ : Interface)).length h), (1, iv v.1), (5, iv b.2.1)] al (W_nil (N_block (N_then (G_region (wR 3 [(0, .slice g ((((b.2.2.set b.2.1.toNat (⟨b.1, c.Stack, (⟨c.Queue.Slots, c.Queue.Waiting⟩ : Queue)⟩ : Interface)).set b.2.1.toNat (⟨d.Mask, k.2, (⟨d.Queue.Slots, d.Queue.Waiting⟩ : Queue)⟩ : Interface)).set b.2.1.toNat (⟨f.Mask, f.Stack, (⟨o.2, f.Queue.Waiting⟩ : Queue)⟩ : Interface)).set b.2.1.toNat (⟨j.Mask, j.Stack, (⟨j.Queue.Slots, v.2⟩ : Queue)⟩ : Interface)).length h), (1, iv v.1), (5, iv (w64 (b.2.1 + 1)))] al (W_nil ?_)))))))
   obtain rfl := Option.some.inj hm
   exact N_loop fun a ha => ⟨_, rfl, x, (L ++ ((P ++ (Q ++ (af ++ []))) ++ N)), cn, (List.length_set.trans (List.length_set.trans (List.length_set.trans (List.length_set.trans a0)))), br.pk [0, 10], ha.s⟩
  refine gF ar (G_exit (N_then_exit (N_then_exit (N_block_eq ?_))))
  obtain rfl := Option.some.inj hm
  obtain rfl := co _ rfl
  exact N_meet fun a ha => ⟨ac, O, a3, a0, R.pk [0, 1], ha.s⟩
 intro dx dv ⟨ad, ae, b6, b3, bs, bu⟩
 refine N_use bu ?_
 have hm := b4
 refine N_then (G_seq (G_region (wR 2 [(4, iv K.1)] dv (W_nil (N_then (G_ret ?_))))))
 obtain rfl := Option.some.inj hm
 exact N_ret [iv K.1] (rC RVs_nil) (⟨ad, ae, rfl, b6, b3, bs.pk [0, 1]⟩)
theorem c_l_markMachine (w : World) (a : Machine) (h : Option Addr) (c : Nat) (v : Seg) (ah : ownS encRoute a.Routes h c v) (i : Option Addr) (d : Nat) (t : Seg) (ai : ownS Gx.encB a.Enabled i d t) (j : Option Addr) (f : Nat) (n : Seg) (aj : ownS Gx.encB a.Raised j f n) (k : Option Addr) (g : Nat) (l : Seg) (m : Seg) (ak : ownD deepInterface a.Cpus k g l m) (y : Int) (hA : ∀ q ∈ List.flatten [v, t, n, l, m], w.heap[q.1]? = some q.2) (hN : (idsOf [v, t, n, l, m]).Nodup) {r : Int × (List Route) × (List Bool) × (List Bool) × (List Interface)} (hm : M.l_markMachine a y = some r) :
  Calls Tryz.prog 20 #[.agg #[.slice h a.Routes.length c, .slice i a.Enabled.length d, .slice j a.Raised.length f, .slice k a.Cpus.length g], iv y] w fun e w' => ∃ (R : Seg), ∃ (S : Seg), ∃ (T : Seg), ∃ (U : Seg) (V : Seg), e = .returned (iv r.1) ∧ ownS encRoute r.2.1 h c R ∧ r.2.1.length = a.Routes.length ∧ ownS Gx.encB r.2.2.1 i d S ∧ r.2.2.1.length = a.Enabled.length ∧ ownS Gx.encB r.2.2.2.1 j f T ∧ r.2.2.2.1.length = a.Raised.length ∧ ownD deepInterface r.2.2.2.2 k g U V ∧ r.2.2.2.2.length = a.Cpus.length ∧ Mem (idsOf [v, t, n, l, m]) w w' [R, S, T, U, V] := by
 unfold M.l_markMachine at hm
 refine cE Tryz.func20 ?_
 have M0 := Mem.start' w [v, t, n, l, m] hA hN
 refine G_seq (G_region (wN (.cells ⟨[.slice h a.Routes.length c, .slice i a.Enabled.length d, .slice j a.Raised.length f, .slice k a.Cpus.length g]⟩ 32 (0, 0)) M0 ?_))
 intro b E F
 refine wR 1 [(1, iv y), (2, pB b 0)] E (W_nil (N_then (G_seq (G_region (wR 1 [(1, iv y), (2, pB b 0), (5, pB b 0)] E (wV (.slice h a.Routes.length c) E (eL false 1 0 (F.blk 5 rfl)) (wR 1 [(1, iv y), (2, pB b 0), (6, .slice h a.Routes.length c), (7, iv y)] E ?_)))))))
 obtain ⟨o, ap, hm⟩ := gx_bind hm
 refine wC 68 #[.slice h a.Routes.length c, iv y] ((c_l_markRouteS E a.Routes h c v ah y (F.hasPick [0]) (F.nodupPick [0] (by kernel_rfl)) ap).mono ?_)
 rintro e_ z ⟨D, rfl, al, J, Y⟩
 have ac := F.callF' [0] [1, 2, 3, 4, 5] (by kernel_rfl) Y
 refine ⟨_, rfl, ?_⟩
 refine wX 6 (.slice h a.Routes.length c) (.slice h o.2.length c) (by first | rw [J] | rw [J]) ?_
 have G : Mem (idsOf [v, t, n, l, m]) w z [t, n, l, m, [(b, .cells ⟨[.slice h o.2.length c, .slice i a.Enabled.length d, .slice j a.Raised.length f, .slice k a.Cpus.length g]⟩ 32 (0, 0))], D] := by rw [J]; exact ac
 refine wR 1 [(1, iv o.1), (2, pB b 0)] z (W_nil (N_then (G_seq (G_region (wR 1 [(1, iv o.1), (2, pB b 0), (9, pB b 1)] z (wV (.slice i a.Enabled.length d) z (eL false 1 1 (G.blk 4 rfl)) (wR 1 [(1, iv o.1), (2, pB b 0), (10, .slice i a.Enabled.length d), (11, iv o.1)] z ?_)))))))
 obtain ⟨u, aq, hm⟩ := gx_bind hm
 refine wC 69 #[.slice i a.Enabled.length d, iv o.1] ((c_l_markBoolS z a.Enabled i d t ai o.1 (G.hasPick [0]) (G.nodupPick [0] (by kernel_rfl)) aq).mono ?_)
 rintro e_ A ⟨O, rfl, am, K, Z⟩
 have ad := G.callF' [0] [1, 2, 3, 4, 5] (by kernel_rfl) Z
 refine ⟨_, rfl, ?_⟩
 refine wX 10 (.slice i a.Enabled.length d) (.slice i u.2.length d) (by first | rw [K] | rw [K]) ?_
 have H : Mem (idsOf [v, t, n, l, m]) w A [n, l, m, [(b, .cells ⟨[.slice h o.2.length c, .slice i u.2.length d, .slice j a.Raised.length f, .slice k a.Cpus.length g]⟩ 32 (0, 0))], D, O] := by rw [K]; exact ad
 refine wR 1 [(1, iv u.1), (2, pB b 0)] A (W_nil (N_then (G_seq (G_region (wR 1 [(1, iv u.1), (2, pB b 0), (13, pB b 2)] A (wV (.slice j a.Raised.length f) A (eL false 1 2 (H.blk 3 rfl)) (wR 1 [(1, iv u.1), (2, pB b 0), (14, .slice j a.Raised.length f), (15, iv u.1)] A ?_)))))))
 obtain ⟨x, ar, hm⟩ := gx_bind hm
 refine wC 69 #[.slice j a.Raised.length f, iv u.1] ((c_l_markBoolS A a.Raised j f n aj u.1 (H.hasPick [0]) (H.nodupPick [0] (by kernel_rfl)) ar).mono ?_)
 rintro e_ B ⟨P, rfl, an, L, aa⟩
 have ae := H.callF' [0] [1, 2, 3, 4, 5] (by kernel_rfl) aa
 refine ⟨_, rfl, ?_⟩
 refine wX 14 (.slice j a.Raised.length f) (.slice j x.2.length f) (by first | rw [L] | rw [L]) ?_
 have I : Mem (idsOf [v, t, n, l, m]) w B [l, m, [(b, .cells ⟨[.slice h o.2.length c, .slice i u.2.length d, .slice j x.2.length f, .slice k a.Cpus.length g]⟩ 32 (0, 0))], D, O, P] := by rw [L]; exact ae
 refine wR 1 [(1, iv x.1), (2, pB b 0)] B (W_nil (N_then (G_seq (G_region (wR 1 [(1, iv x.1), (17, pB b 3)] B (wV (.slice k a.Cpus.length g) B (eL false 1 3 (I.blk 2 rfl)) (wR 1 [(1, iv x.1), (18, .slice k a.Cpus.length g), (19, iv x.1)] B ?_)))))))
 obtain ⟨C, au, hm⟩ := gx_bind hm
 refine wC 70 #[.slice k a.Cpus.length g, iv x.1] ((c_l_markInterfaceS B a.Cpus k g l m ak x.1 (I.hasPick [0, 1]) (I.nodupPick [0, 1] (by kernel_rfl)) au).mono ?_)
 rintro e_ Q ⟨W, X, rfl, ao, N, ab⟩
 have af := I.callF' [0, 1] [2, 3, 4, 5] (by kernel_rfl) ab
 refine ⟨_, rfl, ?_⟩
 refine wX 18 (.slice k a.Cpus.length g) (.slice k C.2.length g) (by first | rw [N] | rw [N]) ?_
 have ag : Mem (idsOf [v, t, n, l, m]) w Q [[(b, .cells ⟨[.slice h o.2.length c, .slice i u.2.length d, .slice j x.2.length f, .slice k C.2.length g]⟩ 32 (0, 0))], D, O, P, W, X] := by rw [N]; exact af
 refine wR 1 [(1, iv C.1)] Q (W_nil (N_then (G_seq (G_region (wR 2 [(4, iv C.1)] Q (W_nil (N_then (G_ret ?_))))))))
 obtain rfl := Option.some.inj hm
 exact N_ret [iv C.1] (rC RVs_nil) (⟨D, O, P, W, X, rfl, al, (J.trans rfl), am, (K.trans rfl), an, (L.trans rfl), ao, (N.trans rfl), ag.pk [1, 2, 3, 4, 5]⟩)
theorem c_l_heldIntS (w : World) (c : List Int) (d : Option Addr) (f : Nat) (m : rdS Gx.encI w c d f) (j : Int) {r : Int} (hm : M.l_heldIntS c j = some r) :
  Calls Tryz.prog 22 #[.slice d c.length f, iv j] w fun e w' => e = .returned (iv r) ∧ Mem [] w w' [] := by
 unfold M.l_heldIntS at hm
 refine cE Tryz.func22 ?_
 have M0 := Mem.refl [] w
 refine G_seq (G_region (wR 1 [(0, .slice d c.length f), (1, iv j)] w (W_nil (N_then (G_seq (G_seq (G_region (wR 1 [(0, .slice d c.length f), (1, iv j), (5, iv 0)] w (W_nil (N_then ?_))))))))))
 obtain ⟨z, y, n⟩ := gx_bind hm
 refine G_meet (fun a w' => ∃ (i : Int), z = .inl i ∧ Mem [] w w' [] ∧ Sat Tryz.f22.ntmps [(1, iv i)] a) ?_ ?_
 ·refine G_block (G_while (σ := Int × Int) (ρ := (Int) ⊕ (Int)) (fun b a w' => Mem [] w w' [] ∧ Sat Tryz.f22.ntmps [(0, .slice d c.length f), (1, iv b.1), (5, iv b.2)] a) y (fun a ha => ⟨M0.pk [], ha.s⟩) ?_)
  clear hm
  intro b D hm o B g ⟨h, v⟩
  refine G_use v (G_seq (G_seq (G_region (wR 4 [(0, .slice d c.length f), (1, iv b.1), (5, iv b.2), (9, .bool (decide (b.2 < (c.length : Int))))] g (W_nil (N_then ?_))))))
  rcases gx_bif hm with ⟨k, hm⟩ | ⟨k, hm⟩
  ·refine gT k (G_skip (N_then (G_seq (G_block (G_seq (G_seq (G_region (wR 2 [(0, .slice d c.length f), (1, iv b.1), (5, iv b.2), (12, .slice d c.length f), (13, iv b.2)] g ?_))))))))
   obtain ⟨t, q, hm⟩ := gx_bind hm
   refine wV (elemP d (b.2.toNat * 1)) g (eI (m.mem0 h) rfl q) (wV (iv t) g (eE false 1 0 (b.2.toNat * 1) (m.mem0 h) q) (wR 2 [(0, .slice d c.length f), (1, iv b.1), (5, iv b.2), (17, .bool (t != b.1))] g (W_nil (N_then ?_))))
   rcases gx_bif hm with ⟨l, hm⟩ | ⟨l, hm⟩
   ·refine gT l (G_seq (G_region (wR 1 [(4, iv (-1))] g (W_nil (N_then (G_ret (N_then_ret (N_block_ret (N_then_ret (N_then_ret ?_))))))))))
    obtain rfl := Option.some.inj hm
    obtain rfl := o _ rfl
    have hm := n; simp only [Sum.elim_inr] at hm
    refine N_block_ret (N_meet_ret (N_then_ret ?_))
    obtain rfl := Option.some.inj hm
    exact N_ret [iv (-1)] (rC RVs_nil) (⟨rfl, h.pk []⟩)
   refine gF l (G_skip (N_then (G_region (wR 3 [(0, .slice d c.length f), (1, iv (w64 (b.1 + 1))), (5, iv b.2)] g (W_nil (N_block (N_then (G_region (wR 3 [(0, .slice d c.length f), (1, iv (w64 (b.1 + 1))), (5, iv (w64 (b.2 + 1)))] g (W_nil ?_))))))))))
   obtain rfl := Option.some.inj hm
   exact N_loop fun a ha => ⟨_, rfl, h.pk [], ha.s⟩
  refine gF k (G_exit (N_then_exit (N_then_exit (N_block_eq ?_))))
  obtain rfl := Option.some.inj hm
  obtain rfl := o _ rfl
  exact N_meet fun a ha => ⟨_, rfl, h.pk [], ha.s⟩
 intro C A ⟨i, hout_, u, x⟩
 refine N_use x ?_
 subst hout_
 have hm := n; simp only [Sum.elim_inl] at hm
 refine N_then (G_seq (G_region (wR 2 [(4, iv i)] A (W_nil (N_then (G_ret ?_))))))
 obtain rfl := Option.some.inj hm
 exact N_ret [iv i] (rC RVs_nil) (⟨rfl, u.pk []⟩)
end Go.Proofs.YtllhajkgkghhdaaGreat
