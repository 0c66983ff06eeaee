/- The walks, printed by program: whenever the model gives r, the call returns r. Part 2. -/
import Derived.Test.YtllhajkgkghhdaaGreatAM
import Derived.Test.YtllhajkgkghhdaaGreatGxZ
import Derived.Test.YtllhajkgkghhdaaGreatProg
import Derived.Test.YtllhajkgkghhdaaGreatSh
import Derived.Test.YtllhajkgkghhdaaGreatAC1
set_option linter.unusedVariables false
set_option maxRecDepth 100000
set_option maxHeartbeats 4000000
namespace Go.Proofs.YtllhajkgkghhdaaGreat
open Go.Gx
theorem c_s_l8Best (w : World) (d : List Slot) (c : Option Addr) (f : Nat) (j : rdS encSlot w d c f) (g : Bool) {r : Int} (hm : M.s_l8Best d g = some r) :
  Calls Tryz.prog 236 #[.slice c d.length f, .bool g] w fun e w' => e = .returned (iv r) ∧ Mem [] w w' [] := by
 unfold M.s_l8Best at hm
 refine cE Tryz.func236 ?_
 have M0 := Mem.refl [] w
 refine G_seq (G_region (wR 1 [(0, .slice c d.length f), (1, .bool g)] w (W_nil (N_then (G_seq (G_region (wR 1 [(0, .slice c d.length f), (1, .bool g), (5, iv (-1))] w (W_nil (N_then (G_seq (G_seq (G_region (wR 1 [(0, .slice c d.length f), (1, .bool g), (5, iv (-1)), (6, iv 0)] w (W_nil (N_then ?_)))))))))))))))
 obtain ⟨O, aw, am⟩ := gx_bind hm
 refine G_meet (fun a w' => Mem [] w w' [] ∧ Sat Tryz.f236.ntmps [(5, iv O)] a) ?_ ?_
 ·refine G_block (G_while (σ := Int × Int) (ρ := Int) (fun b a w' => Mem [] w w' [] ∧ Sat Tryz.f236.ntmps [(0, .slice c d.length f), (1, .bool g), (5, iv b.1), (6, iv b.2)] a) aw (fun a ha => ⟨M0.pk [], ha.s⟩) ?_)
  clear hm
  intro b bh hm aq a4 v ⟨q, ae⟩
  refine G_use ae (G_seq (G_seq (G_region (wR 4 [(0, .slice c d.length f), (1, .bool g), (5, iv b.1), (6, iv b.2), (11, .bool (decide (b.2 < (d.length : Int))))] v (W_nil (N_then ?_))))))
  rcases gx_bif hm with ⟨z, hm⟩ | ⟨z, hm⟩
  ·refine gT z (G_skip (N_then (G_seq ?_)))
   obtain ⟨T, an, aj⟩ := gx_bind hm
   refine G_meet (fun a w' => Mem [] w w' [] ∧ Sat Tryz.f236.ntmps [(0, .slice c d.length f), (1, .bool g), (5, iv T), (6, iv b.2)] a) ?_ ?_
   ·have hm := an
    refine G_block (G_seq (G_region (wR 2 [(0, .slice c d.length f), (1, .bool g), (5, iv b.1), (6, iv b.2), (14, .slice c d.length f), (15, iv b.2)] v ?_)))
    obtain ⟨h, S, hm⟩ := gx_bind hm
    refine wV (elemP c (b.2.toNat * 3)) v (eI (j.mem0 q) rfl S) (wV (.agg #[iv h.State, iv h.Irq, iv h.Priority]) v (eE true 3 0 (b.2.toNat * 3) (j.mem0 q) S) (wN (.cells ⟨[iv 0, iv 0, iv 0]⟩ 117 (0, 0)) q ?_))
    intro i a9 U
    refine wS true 3 0 (.agg #[iv h.State, iv h.Irq, iv h.Priority]) 0 [iv h.State, iv h.Irq, iv h.Priority] U rfl ?_
    intro P y
    refine W_nil (N_then (G_seq (G_seq (G_region (wR 1 [(0, .slice c d.length f), (1, .bool g), (5, iv b.1), (6, iv b.2), (7, pB i 0), (18, pB i 0)] P (wV (iv h.State) P (eL false 1 0 (y.blk 0 rfl)) (wR 1 [(0, .slice c d.length f), (1, .bool g), (5, iv b.1), (6, iv b.2), (7, pB i 0), (20, .bool (h.State != 1))] P (W_nil (N_then ?_)))))))))
    rcases gx_bif hm with ⟨A, hm⟩ | ⟨A, hm⟩
    ·refine gT A (G_exit (N_then_exit (N_block_eq ?_)))
     obtain rfl := Option.some.inj hm
     exact N_meet fun a ha => ⟨y.pk [], ha.s⟩
    refine gF A (G_skip (N_then (G_seq ?_)))
    obtain ⟨ax, ao, ak⟩ := gx_bind hm
    refine G_meet (fun a w' => Mem [] w w' [] ∧ Sat Tryz.f236.ntmps [(0, .slice c d.length f), (1, .bool g), (5, iv b.1), (6, iv b.2), (63, .bool ax)] a) ?_ ?_
    ·have hm := ao
     refine G_quiet (by kernel_rfl) (by kernel_rfl) y (zR [iv b.1, .bool (decide (b.1 < 0)), .bool (decide (b.1 < 0))] [(0, .slice c d.length f), (1, .bool g), (5, iv b.1), (6, iv b.2), (7, pB i 0), (23, .bool (decide (b.1 < 0)))] ?_)
     rcases gx_bif hm with ⟨B, hm⟩ | ⟨B, hm⟩
     ·refine zK 23 true B (zR [undef, undef, undef, undef, undef, undef, undef, undef, undef, undef, undef, undef, undef, undef, undef, undef, undef, undef, .bool true, .bool true, undef, undef, undef, undef, undef, undef, undef, undef, undef, undef, undef, undef, undef, undef, undef, undef, undef, undef, undef, .bool true] [(0, .slice c d.length f), (1, .bool g), (5, iv b.1), (6, iv b.2), (63, .bool true)] (Z_end fun ba V => ?_))
      obtain rfl := Option.some.inj hm
      exact N_meet fun a ha => ⟨V.pk [], ha.s⟩
     refine zK 23 false B (zR [.bool g, .bool g] [(0, .slice c d.length f), (1, .bool g), (5, iv b.1), (6, iv b.2), (7, pB i 0), (23, .bool false), (25, .bool g)] ?_)
     rcases gx_bif hm with ⟨C, hm⟩ | ⟨C, hm⟩
     ·refine zK 25 true C (zR [pB i 2] [(0, .slice c d.length f), (1, .bool g), (5, iv b.1), (6, iv b.2), (7, pB i 0), (23, .bool false), (25, .bool true), (26, pB i 2)] (zV (iv h.Priority) (fun w_ M_ => (eL false 1 2 (M_.blk 0 rfl))) (zR [pB i 1] [(0, .slice c d.length f), (1, .bool g), (5, iv b.1), (6, iv b.2), (7, pB i 0), (23, .bool false), (25, .bool true), (27, iv h.Priority), (28, pB i 1)] (zV (iv h.Irq) (fun w_ M_ => (eL false 1 1 (M_.blk 0 rfl))) (zR [.slice c d.length f, iv b.1] [(0, .slice c d.length f), (1, .bool g), (5, iv b.1), (6, iv b.2), (7, pB i 0), (23, .bool false), (25, .bool true), (27, iv h.Priority), (29, iv h.Irq), (30, .slice c d.length f), (31, iv b.1)] ?_)))))
      obtain ⟨x, H, hm⟩ := gx_bind hm
      refine zV (elemP c (b.1.toNat * 3)) (fun w_ M_ => (eI (j.mem0 M_) rfl H)) (zV (elemP c (b.1.toNat * 3 + 2)) (fun w_ M_ => (eF 2 (b.1.toNat * 3) 2 (j.mem0 M_) H)) (zV (iv x.Priority) (fun w_ M_ => (eE false 1 2 (b.1.toNat * 3 + 2) (j.mem0 M_) H)) (zR [.slice c d.length f, iv b.1] [(0, .slice c d.length f), (1, .bool g), (5, iv b.1), (6, iv b.2), (7, pB i 0), (23, .bool false), (25, .bool true), (27, iv h.Priority), (29, iv h.Irq), (34, iv x.Priority), (35, .slice c d.length f), (36, iv b.1)] ?_)))
      obtain ⟨Q, I, hm⟩ := gx_bind hm
      refine zV (elemP c (b.1.toNat * 3)) (fun w_ M_ => (eI (j.mem0 M_) rfl I)) (zV (elemP c (b.1.toNat * 3 + 1)) (fun w_ M_ => (eF 1 (b.1.toNat * 3) 1 (j.mem0 M_) I)) (zV (iv Q.Irq) (fun w_ M_ => (eE false 1 1 (b.1.toNat * 3 + 1) (j.mem0 M_) I)) ?_))
      obtain ⟨m, ar, hm⟩ := gx_bind hm
      refine Z_call 171 #[iv h.Priority, iv h.Irq, iv x.Priority, iv Q.Irq] (.bool m) (by kernel_rfl) (fun w_ => by kernel_rfl) (fun w_ M_ => (c_s_l8Less w_ h.Priority h.Irq x.Priority Q.Irq ar).mono fun e w2_ h_ => ⟨h_.1, M_.call0 h_.2⟩) (zR [.bool m, .bool m, .bool m] [(0, .slice c d.length f), (1, .bool g), (5, iv b.1), (6, iv b.2), (7, pB i 0), (43, .bool m)] ?_)
      rcases gx_bif hm with ⟨D, hm⟩ | ⟨D, hm⟩
      ·refine zK 43 true D (zR [undef, undef, undef, undef, undef, undef, undef, undef, undef, undef, undef, undef, undef, undef, undef, undef, undef, undef, undef, .bool true] [(0, .slice c d.length f), (1, .bool g), (5, iv b.1), (6, iv b.2), (63, .bool true)] (Z_end fun bb W => ?_))
       obtain rfl := Option.some.inj hm
       exact N_meet fun a ha => ⟨W.pk [], ha.s⟩
      refine zK 43 false D (zR [.bool g, .bool (!g), .bool (!g)] [(0, .slice c d.length f), (1, .bool g), (5, iv b.1), (6, iv b.2), (7, pB i 0), (43, .bool false), (46, .bool (!g))] ?_)
      rcases gx_bif hm with ⟨E, hm⟩ | ⟨E, hm⟩
      ·refine zK 46 true E (zR [.slice c d.length f, iv b.1] [(0, .slice c d.length f), (1, .bool g), (5, iv b.1), (6, iv b.2), (7, pB i 0), (43, .bool false), (46, .bool true), (47, .slice c d.length f), (48, iv b.1)] ?_)
       obtain ⟨k, J, hm⟩ := gx_bind hm
       refine zV (elemP c (b.1.toNat * 3)) (fun w_ M_ => (eI (j.mem0 M_) rfl J)) (zV (elemP c (b.1.toNat * 3 + 2)) (fun w_ M_ => (eF 2 (b.1.toNat * 3) 2 (j.mem0 M_) J)) (zV (iv k.Priority) (fun w_ M_ => (eE false 1 2 (b.1.toNat * 3 + 2) (j.mem0 M_) J)) (zR [.slice c d.length f, iv b.1] [(0, .slice c d.length f), (1, .bool g), (5, iv b.1), (6, iv b.2), (7, pB i 0), (43, .bool false), (46, .bool true), (51, iv k.Priority), (52, .slice c d.length f), (53, iv b.1)] ?_)))
       obtain ⟨n, K, hm⟩ := gx_bind hm
       refine zV (elemP c (b.1.toNat * 3)) (fun w_ M_ => (eI (j.mem0 M_) rfl K)) (zV (elemP c (b.1.toNat * 3 + 1)) (fun w_ M_ => (eF 1 (b.1.toNat * 3) 1 (j.mem0 M_) K)) (zV (iv n.Irq) (fun w_ M_ => (eE false 1 1 (b.1.toNat * 3 + 1) (j.mem0 M_) K)) (zR [pB i 2] [(0, .slice c d.length f), (1, .bool g), (5, iv b.1), (6, iv b.2), (7, pB i 0), (43, .bool false), (46, .bool true), (51, iv k.Priority), (56, iv n.Irq), (57, pB i 2)] (zV (iv h.Priority) (fun w_ M_ => (eL false 1 2 (M_.blk 0 rfl))) (zR [pB i 1] [(0, .slice c d.length f), (1, .bool g), (5, iv b.1), (6, iv b.2), (43, .bool false), (46, .bool true), (51, iv k.Priority), (56, iv n.Irq), (58, iv h.Priority), (59, pB i 1)] (zV (iv h.Irq) (fun w_ M_ => (eL false 1 1 (M_.blk 0 rfl))) ?_))))))
       obtain ⟨t, au, hm⟩ := gx_bind hm
       refine Z_call 171 #[iv k.Priority, iv n.Irq, iv h.Priority, iv h.Irq] (.bool t) (by kernel_rfl) (fun w_ => by kernel_rfl) (fun w_ M_ => (c_s_l8Less w_ k.Priority n.Irq h.Priority h.Irq au).mono fun e w2_ h_ => ⟨h_.1, M_.call0 h_.2⟩) (zR [.bool t, .bool t] [(0, .slice c d.length f), (1, .bool g), (5, iv b.1), (6, iv b.2), (63, .bool t)] (Z_end fun bc X => ?_))
       obtain rfl := Option.some.inj hm
       exact N_meet fun a ha => ⟨X.pk [], ha.s⟩
      refine zK 46 false E (zR [undef, undef, undef, undef, undef, undef, undef, undef, undef, undef, undef, undef, undef, undef, undef, .bool false, .bool false] [(0, .slice c d.length f), (1, .bool g), (5, iv b.1), (6, iv b.2), (63, .bool false)] (Z_end fun bd Y => ?_))
      obtain rfl := Option.some.inj hm
      exact N_meet fun a ha => ⟨Y.pk [], ha.s⟩
     refine zK 25 false C (zR [undef, undef, undef, undef, undef, undef, undef, undef, undef, undef, undef, undef, undef, undef, undef, .bool false, .bool false, .bool false, .bool g, .bool (!g), .bool (!g)] [(0, .slice c d.length f), (1, .bool g), (5, iv b.1), (6, iv b.2), (7, pB i 0), (43, .bool false), (46, .bool (!g))] ?_)
     rcases gx_bif hm with ⟨F, hm⟩ | ⟨F, hm⟩
     ·refine zK 46 true F (zR [.slice c d.length f, iv b.1] [(0, .slice c d.length f), (1, .bool g), (5, iv b.1), (6, iv b.2), (7, pB i 0), (43, .bool false), (46, .bool true), (47, .slice c d.length f), (48, iv b.1)] ?_)
      obtain ⟨l, L, hm⟩ := gx_bind hm
      refine zV (elemP c (b.1.toNat * 3)) (fun w_ M_ => (eI (j.mem0 M_) rfl L)) (zV (elemP c (b.1.toNat * 3 + 2)) (fun w_ M_ => (eF 2 (b.1.toNat * 3) 2 (j.mem0 M_) L)) (zV (iv l.Priority) (fun w_ M_ => (eE false 1 2 (b.1.toNat * 3 + 2) (j.mem0 M_) L)) (zR [.slice c d.length f, iv b.1] [(0, .slice c d.length f), (1, .bool g), (5, iv b.1), (6, iv b.2), (7, pB i 0), (43, .bool false), (46, .bool true), (51, iv l.Priority), (52, .slice c d.length f), (53, iv b.1)] ?_)))
      obtain ⟨o, N, hm⟩ := gx_bind hm
      refine zV (elemP c (b.1.toNat * 3)) (fun w_ M_ => (eI (j.mem0 M_) rfl N)) (zV (elemP c (b.1.toNat * 3 + 1)) (fun w_ M_ => (eF 1 (b.1.toNat * 3) 1 (j.mem0 M_) N)) (zV (iv o.Irq) (fun w_ M_ => (eE false 1 1 (b.1.toNat * 3 + 1) (j.mem0 M_) N)) (zR [pB i 2] [(0, .slice c d.length f), (1, .bool g), (5, iv b.1), (6, iv b.2), (7, pB i 0), (43, .bool false), (46, .bool true), (51, iv l.Priority), (56, iv o.Irq), (57, pB i 2)] (zV (iv h.Priority) (fun w_ M_ => (eL false 1 2 (M_.blk 0 rfl))) (zR [pB i 1] [(0, .slice c d.length f), (1, .bool g), (5, iv b.1), (6, iv b.2), (43, .bool false), (46, .bool true), (51, iv l.Priority), (56, iv o.Irq), (58, iv h.Priority), (59, pB i 1)] (zV (iv h.Irq) (fun w_ M_ => (eL false 1 1 (M_.blk 0 rfl))) ?_))))))
      obtain ⟨u, av, hm⟩ := gx_bind hm
      refine Z_call 171 #[iv l.Priority, iv o.Irq, iv h.Priority, iv h.Irq] (.bool u) (by kernel_rfl) (fun w_ => by kernel_rfl) (fun w_ M_ => (c_s_l8Less w_ l.Priority o.Irq h.Priority h.Irq av).mono fun e w2_ h_ => ⟨h_.1, M_.call0 h_.2⟩) (zR [.bool u, .bool u] [(0, .slice c d.length f), (1, .bool g), (5, iv b.1), (6, iv b.2), (63, .bool u)] (Z_end fun be Z => ?_))
      obtain rfl := Option.some.inj hm
      exact N_meet fun a ha => ⟨Z.pk [], ha.s⟩
     refine zK 46 false F (zR [undef, undef, undef, undef, undef, undef, undef, undef, undef, undef, undef, undef, undef, undef, undef, .bool false, .bool false] [(0, .slice c d.length f), (1, .bool g), (5, iv b.1), (6, iv b.2), (63, .bool false)] (Z_end fun bf aa => ?_))
     obtain rfl := Option.some.inj hm
     exact N_meet fun a ha => ⟨aa.pk [], ha.s⟩
    intro a5 az ⟨R, af⟩
    refine N_use af ?_
    have hm := ak
    refine N_then ?_
    obtain ⟨ay, ap, al⟩ := gx_bind hm
    refine G_meet (fun a w' => Mem [] w w' [] ∧ Sat Tryz.f236.ntmps [(0, .slice c d.length f), (1, .bool g), (5, iv ay), (6, iv b.2)] a) ?_ ?_
    ·have hm := ap
     rcases gx_bif hm with ⟨G, hm⟩ | ⟨G, hm⟩
     ·refine gT G (G_region (wR 2 [(0, .slice c d.length f), (1, .bool g), (5, iv b.2), (6, iv b.2)] az (W_nil ?_)))
      obtain rfl := Option.some.inj hm
      exact N_meet fun a ha => ⟨R.pk [], ha.s⟩
     refine gF G (G_skip ?_)
     obtain rfl := Option.some.inj hm
     exact N_meet fun a ha => ⟨R.pk [], ha.s⟩
    intro a6 bg ⟨ab, ag⟩
    refine N_use ag ?_
    have hm := al
    refine N_block ?_
    obtain rfl := Option.some.inj hm
    exact N_meet fun a ha => ⟨ab.pk [], ha.s⟩
   intro a7 a0 ⟨ac, ah⟩
   refine N_use ah ?_
   have hm := aj
   refine N_then (G_region (wR 3 [(0, .slice c d.length f), (1, .bool g), (5, iv T), (6, iv (w64 (b.2 + 1)))] a0 (W_nil ?_)))
   obtain rfl := Option.some.inj hm
   exact N_loop fun a ha => ⟨_, rfl, ac.pk [], ha.s⟩
  refine gF z (G_exit (N_then_exit (N_then_exit (N_block_eq ?_))))
  obtain rfl := Option.some.inj hm
  obtain rfl := aq _ rfl
  exact N_meet fun a ha => ⟨q.pk [], ha.s⟩
 intro a8 a3 ⟨ad, ai⟩
 refine N_use ai ?_
 have hm := am
 refine N_then (G_seq (G_region (wR 2 [(4, iv O)] a3 (W_nil (N_then (G_ret ?_))))))
 obtain rfl := Option.some.inj hm
 exact N_ret [iv O] (rC RVs_nil) (⟨rfl, ad.pk []⟩)
theorem c_s_l9Settled (w : World) (d : Queue) (f : Option Addr) (g : Nat) (i : rdS encSlot w d.Slots f g) (h : Option Addr) (l : Nat) (m : rdS encWaiter w d.Waiting h l) {r : Bool} (hm : M.s_l9Settled d = some r) :
  Calls Tryz.prog 190 #[.agg #[.slice f d.Slots.length g, .slice h d.Waiting.length l]] w fun e w' => e = .returned (.bool r) ∧ Mem [] w w' [] := by
 unfold M.s_l9Settled at hm
 refine cE Tryz.func190 ?_
 have M0 := Mem.refl [] w
 refine G_seq (G_region (wN (.cells ⟨[.slice f d.Slots.length g, .slice h d.Waiting.length l]⟩ 85 (0, 0)) M0 ?_))
 intro b j n
 refine wR 1 [(1, pB b 0)] j (W_nil (N_then (G_seq (G_seq (G_region (wR 1 [(1, pB b 0), (4, pB b 1)] j (wV (.slice h d.Waiting.length l) j (eL false 1 1 (n.blk 0 rfl)) (wR 2 [(1, pB b 0), (7, .bool ((d.Waiting.length : Int) == 0))] j (W_nil (N_then ?_))))))))))
 rcases gx_bif hm with ⟨x, hm⟩ | ⟨x, hm⟩
 ·refine gT x (G_seq (G_region (wR 1 [(2, .bool true)] j (W_nil (N_then (G_ret (N_then_ret ?_)))))))
  obtain rfl := Option.some.inj hm
  exact N_ret [.bool true] (rC RVs_nil) (⟨rfl, n.pk []⟩)
 refine gF x (G_skip (N_then (G_seq (G_seq (G_region (wR 1 [(1, pB b 0), (8, pB b 0)] j (wV (.slice f d.Slots.length g) j (eL false 1 0 (n.blk 0 rfl)) ?_)))))))
 obtain ⟨T, Q, hm⟩ := gx_bind hm
 refine wC 235 #[.slice f d.Slots.length g] ((c_s_l8Free j d.Slots f g (i.mem0 n) Q).mono ?_)
 rintro e_ o ⟨rfl, G⟩
 have t := n.call0 G
 refine ⟨_, rfl, ?_⟩
 refine wR 1 [(1, pB b 0), (11, .bool (decide (T ≥ 0)))] o (W_nil (N_then ?_))
 rcases gx_bif hm with ⟨y, hm⟩ | ⟨y, hm⟩
 ·refine gT y (G_seq (G_region (wR 1 [(2, .bool false)] o (W_nil (N_then (G_ret (N_then_ret ?_)))))))
  obtain rfl := Option.some.inj hm
  exact N_ret [.bool false] (rC RVs_nil) (⟨rfl, t.pk []⟩)
 refine gF y (G_skip (N_then (G_seq (G_region (wR 1 [(1, pB b 0), (12, pB b 0)] o (wV (.slice f d.Slots.length g) o (eL false 1 0 (t.blk 0 rfl)) ?_))))))
 obtain ⟨c, R, hm⟩ := gx_bind hm
 refine wC 236 #[.slice f d.Slots.length g, .bool false] ((c_s_l8Best o d.Slots f g (i.mem0 t) false R).mono ?_)
 rintro e_ U ⟨rfl, H⟩
 have I := t.call0 H
 refine ⟨_, rfl, ?_⟩
 refine wR 1 [(1, pB b 0), (3, iv c)] U (W_nil (N_then (G_seq ?_)))
 obtain ⟨F, P, O⟩ := gx_bind hm
 refine G_meet (fun a w' => Mem [] w w' [] ∧ Sat Tryz.f190.ntmps [(2, .bool F)] a) ?_ ?_
 ·have hm := P
  refine G_quiet (by kernel_rfl) (by kernel_rfl) I (zR [iv c, .bool (decide (c < 0)), .bool (decide (c < 0))] [(1, pB b 0), (3, iv c), (17, .bool (decide (c < 0)))] ?_)
  rcases gx_bif hm with ⟨z, hm⟩ | ⟨z, hm⟩
  ·refine zK 17 true z (zR [undef, undef, undef, undef, undef, undef, undef, undef, undef, undef, undef, undef, undef, undef, undef, undef, undef, undef, undef, undef, undef, undef, undef, .bool true, .bool true] [(2, .bool true)] (Z_end fun W J => ?_))
   obtain rfl := Option.some.inj hm
   exact N_meet fun a ha => ⟨J.pk [], ha.s⟩
  refine zK 17 false z (zR [pB b 0] [(1, pB b 0), (3, iv c), (17, .bool false), (18, pB b 0)] (zV (.slice f d.Slots.length g) (fun w_ M_ => (eL false 1 0 (M_.blk 0 rfl))) (zR [iv c] [(1, pB b 0), (3, iv c), (17, .bool false), (19, .slice f d.Slots.length g), (20, iv c)] ?_)))
  obtain ⟨k, A, hm⟩ := gx_bind hm
  refine zV (elemP f (c.toNat * 3)) (fun w_ M_ => (eI (i.mem0 M_) rfl A)) (zV (elemP f (c.toNat * 3 + 2)) (fun w_ M_ => (eF 2 (c.toNat * 3) 2 (i.mem0 M_) A)) (zV (iv k.Priority) (fun w_ M_ => (eE false 1 2 (c.toNat * 3 + 2) (i.mem0 M_) A)) (zR [pB b 0] [(1, pB b 0), (3, iv c), (17, .bool false), (23, iv k.Priority), (24, pB b 0)] (zV (.slice f d.Slots.length g) (fun w_ M_ => (eL false 1 0 (M_.blk 0 rfl))) (zR [iv c] [(1, pB b 0), (17, .bool false), (23, iv k.Priority), (25, .slice f d.Slots.length g), (26, iv c)] ?_)))))
  obtain ⟨q, B, hm⟩ := gx_bind hm
  refine zV (elemP f (c.toNat * 3)) (fun w_ M_ => (eI (i.mem0 M_) rfl B)) (zV (elemP f (c.toNat * 3 + 1)) (fun w_ M_ => (eF 1 (c.toNat * 3) 1 (i.mem0 M_) B)) (zV (iv q.Irq) (fun w_ M_ => (eE false 1 1 (c.toNat * 3 + 1) (i.mem0 M_) B)) (zR [pB b 1] [(1, pB b 0), (17, .bool false), (23, iv k.Priority), (29, iv q.Irq), (30, pB b 1)] (zV (.slice h d.Waiting.length l) (fun w_ M_ => (eL false 1 1 (M_.blk 0 rfl))) ?_))))
  obtain ⟨v, C, hm⟩ := gx_bind hm
  refine zV (elemP h ((0 : Int).toNat * 2)) (fun w_ M_ => (eI (m.mem0 M_) rfl C)) (zV (elemP h ((0 : Int).toNat * 2 + 1)) (fun w_ M_ => (eF 1 ((0 : Int).toNat * 2) 1 (m.mem0 M_) C)) (zV (iv v.Priority) (fun w_ M_ => (eE false 1 1 ((0 : Int).toNat * 2 + 1) (m.mem0 M_) C)) (zR [pB b 1] [(17, .bool false), (23, iv k.Priority), (29, iv q.Irq), (34, iv v.Priority), (35, pB b 1)] (zV (.slice h d.Waiting.length l) (fun w_ M_ => (eL false 1 1 (M_.blk 0 rfl))) ?_))))
  obtain ⟨E, D, hm⟩ := gx_bind hm
  refine zV (elemP h ((0 : Int).toNat * 2)) (fun w_ M_ => (eI (m.mem0 M_) rfl D)) (zV (elemP h ((0 : Int).toNat * 2 + 0)) (fun w_ M_ => (eF 0 ((0 : Int).toNat * 2) 0 (m.mem0 M_) D)) (zV (iv E.Irq) (fun w_ M_ => (eE false 1 0 ((0 : Int).toNat * 2 + 0) (m.mem0 M_) D)) ?_))
  obtain ⟨u, S, hm⟩ := gx_bind hm
  refine Z_call 171 #[iv k.Priority, iv q.Irq, iv v.Priority, iv E.Irq] (.bool u) (by kernel_rfl) (fun w_ => by kernel_rfl) (fun w_ M_ => (c_s_l8Less w_ k.Priority q.Irq v.Priority E.Irq S).mono fun e w2_ h_ => ⟨h_.1, M_.call0 h_.2⟩) (zR [.bool u, .bool u] [(2, .bool u)] (Z_end fun X K => ?_))
  obtain rfl := Option.some.inj hm
  exact N_meet fun a ha => ⟨K.pk [], ha.s⟩
 intro V Y ⟨L, N⟩
 refine N_use N ?_
 have hm := O
 refine N_then (G_ret ?_)
 obtain rfl := Option.some.inj hm
 exact N_ret [.bool F] (rC RVs_nil) (⟨rfl, L.pk []⟩)
theorem c_s_l9Good (w : World) (b : Queue) (d : Option Addr) (c : Nat) (n : rdS encSlot w b.Slots d c) (g : Option Addr) (f : Nat) (o : rdS encWaiter w b.Waiting g f) {r : Bool} (hm : M.s_l9Good b = some r) :
  Calls Tryz.prog 154 #[.agg #[.slice d b.Slots.length c, .slice g b.Waiting.length f]] w fun e w' => e = .returned (.bool r) ∧ Mem [] w w' [] := by
 unfold M.s_l9Good at hm
 refine cE Tryz.func154 ?_
 have M0 := Mem.refl [] w
 refine G_seq (G_region (wN (.cells ⟨[.slice d b.Slots.length c, .slice g b.Waiting.length f]⟩ 85 (0, 0)) M0 ?_))
 intro h i j
 refine wR 1 [(1, pB h 0)] i (W_nil (N_then (G_seq ?_)))
 obtain ⟨q, A, z⟩ := gx_bind hm
 refine G_meet (fun a w' => Mem [] w w' [] ∧ Sat Tryz.f154.ntmps [(2, .bool q)] a) ?_ ?_
 ·have hm := A
  refine G_region (wR 1 [(1, pB h 0), (3, pB h 0)] i (wV (.slice d b.Slots.length c) i (eL false 1 0 (j.blk 0 rfl)) (wR 1 [(1, pB h 0), (4, .slice d b.Slots.length c), (5, pB h 1)] i (wV (.slice g b.Waiting.length f) i (eL false 1 1 (j.blk 0 rfl)) ?_))))
  obtain ⟨D, B, hm⟩ := gx_bind hm
  refine wC 189 #[.slice d b.Slots.length c, .slice g b.Waiting.length f] ((c_s_l9Waiting i b.Slots d c (n.mem0 j) b.Waiting g f (o.mem0 j) B).mono ?_)
  rintro e_ l ⟨rfl, t⟩
  have k := j.call0 t
  refine ⟨_, rfl, ?_⟩
  refine wR 1 [(1, pB h 0), (8, .bool D)] l ?_
  rcases gx_bif hm with ⟨m, hm⟩ | ⟨m, hm⟩
  ·refine wK 8 true m (wV (.agg #[.slice d b.Slots.length c, .slice g b.Waiting.length f]) l (eL true 2 0 (k.blk 0 rfl)) ?_)
   obtain ⟨E, C, hm⟩ := gx_bind hm
   refine wC 190 #[.agg #[.slice d b.Slots.length c, .slice g b.Waiting.length f]] ((c_s_l9Settled l b d c (n.mem0 k) g f (o.mem0 k) C).mono ?_)
   rintro e_ F ⟨rfl, u⟩
   have v := k.call0 u
   refine ⟨_, rfl, ?_⟩
   refine wR 2 [(2, .bool E)] F (W_nil ?_)
   obtain rfl := Option.some.inj hm
   exact N_meet fun a ha => ⟨v.pk [], ha.s⟩
  refine wK 8 false m (wR 4 [(2, .bool false)] l (W_nil ?_))
  obtain rfl := Option.some.inj hm
  exact N_meet fun a ha => ⟨k.pk [], ha.s⟩
 intro G H ⟨x, y⟩
 refine N_use y ?_
 have hm := z
 refine N_then (G_ret ?_)
 obtain rfl := Option.some.inj hm
 exact N_ret [.bool q] (rC RVs_nil) (⟨rfl, x.pk []⟩)
theorem c_s_l1Put (w : World) (d : List Int) (c : Option Addr) (b : Nat) (l : Seg) (A : ownS Gx.encI d c b l) (g : Int) (hA : ∀ q ∈ List.flatten [l], w.heap[q.1]? = some q.2) (hN : (idsOf [l]).Nodup) {r : (List Int)} (hm : M.s_l1Put d g = some r) :
  Calls Tryz.prog 191 #[.slice c d.length b, iv g] w fun e w' => ∃ (an : Option Addr) (ah : Nat) (ao : Seg), e = .returned (.slice an r.length ah) ∧ ownS Gx.encI r an ah ao ∧ Mem (idsOf [l]) w w' [ao] := by
 unfold M.s_l1Put at hm
 refine cE Tryz.func191 ?_
 have M0 := Mem.start' w [l] hA hN
 refine G_seq (G_region (wR 1 [(0, .slice c d.length b), (1, iv g)] w (W_nil (N_then (G_seq (G_region (wR 1 [(0, .slice c d.length b), (1, iv g), (5, iv 0)] w (W_nil (N_then (G_seq ?_))))))))))
 obtain ⟨k, bm, bh⟩ := gx_bind hm
 refine G_meet (fun a w' => Mem (idsOf [l]) w w' [l] ∧ Sat Tryz.f191.ntmps [(0, .slice c d.length b), (1, iv g), (5, iv k)] a) ?_ ?_
 ·refine G_block (G_while (σ := Int) (ρ := Int) (fun n a w' => Mem (idsOf [l]) w w' [l] ∧ Sat Tryz.f191.ntmps [(0, .slice c d.length b), (1, iv g), (5, iv n)] a) bm (fun a ha => ⟨M0.pk [0], ha.s⟩) ?_)
  clear hm
  intro n ch hm bl b5 F ⟨J, a8⟩
  refine G_use a8 (G_seq (G_seq ?_))
  obtain ⟨bn, bi, bf⟩ := gx_bind hm
  refine G_meet (fun a w' => Mem (idsOf [l]) w w' [l] ∧ Sat Tryz.f191.ntmps [(0, .slice c d.length b), (1, iv g), (5, iv n), (17, .bool bn)] a) ?_ ?_
  ·have hm := bi
   refine G_region (wR 5 [(0, .slice c d.length b), (1, iv g), (5, iv n), (10, .bool (decide (n < (d.length : Int))))] F ?_)
   rcases gx_bif hm with ⟨Q, hm⟩ | ⟨Q, hm⟩
   ·refine wK 10 true Q (wR 2 [(0, .slice c d.length b), (1, iv g), (5, iv n), (10, .bool true), (11, .slice c d.length b), (12, iv n)] F ?_)
    obtain ⟨ap, ai, hm⟩ := gx_bind hm
    refine wV (elemP c (n.toNat * 1)) F (eI (A.rd J 0 (by kernel_rfl)) rfl ai) (wV (iv ap) F (eE false 1 0 (n.toNat * 1) (A.rd J 0 (by kernel_rfl)) ai) (wR 3 [(0, .slice c d.length b), (1, iv g), (5, iv n), (17, .bool (decide (ap < g)))] F (W_nil ?_)))
    obtain rfl := Option.some.inj hm
    exact N_meet fun a ha => ⟨J.pk [0], ha.s⟩
   refine wK 10 false Q (wR 7 [(0, .slice c d.length b), (1, iv g), (5, iv n), (17, .bool false)] F (W_nil ?_))
   obtain rfl := Option.some.inj hm
   exact N_meet fun a ha => ⟨J.pk [0], ha.s⟩
  intro b6 bt ⟨Z, a9⟩
  refine N_use a9 ?_
  have hm := bf
  refine N_then ?_
  rcases gx_bif hm with ⟨S, hm⟩ | ⟨S, hm⟩
  ·refine gT S (G_skip (N_then (G_block (G_region (wR 3 [(0, .slice c d.length b), (1, iv g), (5, iv (w64 (n + 1)))] bt (W_nil (N_block ?_)))))))
   obtain rfl := Option.some.inj hm
   exact N_loop fun a ha => ⟨_, rfl, Z.pk [0], ha.s⟩
  refine gF S (G_exit (N_then_exit (N_then_exit (N_block_eq ?_))))
  obtain rfl := Option.some.inj hm
  obtain rfl := bl _ rfl
  exact N_meet fun a ha => ⟨Z.pk [0], ha.s⟩
 intro b7 G ⟨K, ba⟩
 refine N_use ba ?_
 have hm := bh
 refine N_then (G_seq (G_seq ?_))
 obtain ⟨am, bj, bg⟩ := gx_bind hm
 refine G_meet (fun a w' => Mem (idsOf [l]) w w' [l] ∧ Sat Tryz.f191.ntmps [(0, .slice c d.length b), (1, iv g), (5, iv k), (31, .bool am)] a) ?_ ?_
 ·have hm := bj
  refine G_region (wR 5 [(0, .slice c d.length b), (1, iv g), (5, iv k), (24, .bool (decide (k < (d.length : Int))))] G ?_)
  rcases gx_bif hm with ⟨T, hm⟩ | ⟨T, hm⟩
  ·refine wK 24 true T (wR 2 [(0, .slice c d.length b), (1, iv g), (5, iv k), (24, .bool true), (25, .slice c d.length b), (26, iv k)] G ?_)
   obtain ⟨aq, aj, hm⟩ := gx_bind hm
   refine wV (elemP c (k.toNat * 1)) G (eI (A.rd K 0 (by kernel_rfl)) rfl aj) (wV (iv aq) G (eE false 1 0 (k.toNat * 1) (A.rd K 0 (by kernel_rfl)) aj) (wR 3 [(0, .slice c d.length b), (1, iv g), (5, iv k), (31, .bool (aq == g))] G (W_nil ?_)))
   obtain rfl := Option.some.inj hm
   exact N_meet fun a ha => ⟨K.pk [0], ha.s⟩
  refine wK 24 false T (wR 7 [(0, .slice c d.length b), (1, iv g), (5, iv k), (31, .bool false)] G (W_nil ?_))
  obtain rfl := Option.some.inj hm
  exact N_meet fun a ha => ⟨K.pk [0], ha.s⟩
 intro b8 bu ⟨aa, bb⟩
 refine N_use bb ?_
 have hm := bg
 refine N_then ?_
 rcases gx_bif hm with ⟨U, hm⟩ | ⟨U, hm⟩
 ·refine gT U (G_seq (G_region (wR 2 [(4, .slice c d.length b)] bu (W_nil (N_then (G_ret (N_then_ret ?_)))))))
  obtain rfl := Option.some.inj hm
  exact N_ret [.slice c d.length b] (rC RVs_nil) (⟨c, b, l, rfl, A, aa.pk [0]⟩)
 refine gF U (G_skip (N_then (G_seq ?_)))
 obtain ⟨N, ak, hm⟩ := gx_bind hm
 obtain ⟨H, bc, hm⟩ := gx_bind hm
 obtain ⟨I, bd, hm⟩ := gx_bind hm
 obtain ⟨O, al, hm⟩ := gx_bind hm
 refine G_sub [(0, .slice c d.length b), (1, iv g), (5, iv k), (31, .bool am)] (by kernel_rfl) (G_dagL 11 [[], [], [], [1, 2], [0, 3], [], [5], [4, 6], [], [], [8, 9]] [[], [], [], [], [0], [], [], [4], [], [], []] [[], [], [], [], [], [], [], [6], [], [], []] [[], [], [], [], [], [], [], [], [], [], []] [[], [], [], [], [], [], [], [], [], [], []] [[], [], [], [], [], [], [], [], [], [], []] (fun _ => []) (fun i => ([fun f v s => ∃ (B : Option Addr) (x : Nat), v = (.slice B ([] : List Int).length x : Value) ∧ ownS Gx.encI ([] : List Int) B x s, fun f v s => v = (.slice c d.length b : Value) ∧ s = [], fun f v s => v = (iv k : Value) ∧ s = [], fun f v s => v = (.slice (subP c (0 : Int).toNat b 1) N.length (b - (0 : Int).toNat) : Value) ∧ s = [], fun f v s => ∃ (C : Option Addr) (y : Nat), v = (.slice C H.length y : Value) ∧ ownS Gx.encI H C y s, fun f v s => v = (iv g : Value) ∧ s = [], fun f v s => ∃ (u : Option Addr) (t : Nat), v = (.slice u [g].length t : Value) ∧ ownS Gx.encI [g] u t s, fun f v s => ∃ (D : Option Addr) (z : Nat), v = (.slice D I.length z : Value) ∧ ownS Gx.encI I D z s, fun f v s => v = (.slice c d.length b : Value) ∧ s = [], fun f v s => v = (iv k : Value) ∧ s = [], fun f v s => v = (.slice (subP c k.toNat b 1) O.length (b - k.toNat) : Value) ∧ s = []] : List ((Nat → Value) → Value → Seg → Prop)).getD i (fun _ _ _ => False)) (fun j f v => ∃ s, (fun i => ([fun f v s => ∃ (B : Option Addr) (x : Nat), v = (.slice B ([] : List Int).length x : Value) ∧ ownS Gx.encI ([] : List Int) B x s, fun f v s => v = (.slice c d.length b : Value) ∧ s = [], fun f v s => v = (iv k : Value) ∧ s = [], fun f v s => v = (.slice (subP c (0 : Int).toNat b 1) N.length (b - (0 : Int).toNat) : Value) ∧ s = [], fun f v s => ∃ (C : Option Addr) (y : Nat), v = (.slice C H.length y : Value) ∧ ownS Gx.encI H C y s, fun f v s => v = (iv g : Value) ∧ s = [], fun f v s => ∃ (u : Option Addr) (t : Nat), v = (.slice u [g].length t : Value) ∧ ownS Gx.encI [g] u t s, fun f v s => ∃ (D : Option Addr) (z : Nat), v = (.slice D I.length z : Value) ∧ ownS Gx.encI I D z s, fun f v s => v = (.slice c d.length b : Value) ∧ s = [], fun f v s => v = (iv k : Value) ∧ s = [], fun f v s => v = (.slice (subP c k.toNat b 1) O.length (b - k.toNat) : Value) ∧ s = []] : List ((Nat → Value) → Value → Seg → Prop)).getD i (fun _ _ _ => False)) j f v s) [] [6, 7, 10] [6, 7] (fun _ _ _ s h => ⟨s, h⟩) (by kernel_rfl) (by kernel_rfl) (aa.preNil 11) (by kernel_rfl) (by kernel_rfl) (by kernel_rfl) (by kernel_rfl) (allOb_cons ?_ (allOb_cons ?_ (allOb_cons ?_ (allOb_cons ?_ (allOb_cons ?_ (allOb_cons ?_ (allOb_cons ?_ (allOb_cons ?_ (allOb_cons ?_ (allOb_cons ?_ (allOb_cons ?_ allOb_nil))))))))))) ?_)
 ·intro m o
  intro R b9 ar
  refine wL (E := Gx.encI) ([] : List Int) 0 [] 3 ar ?_
  intro B x bo ca V au
  exact W_nil (oE (.slice B ([] : List Int).length x) bo ⟨B, x, rfl, V⟩ (Mem.mid au))
 ·intro m o
  intro R bv av
  exact wR 1 [(34, .slice c d.length b)] bv (W_nil (oE (.slice c d.length b) [] ⟨by kernel_rfl, rfl⟩ av))
 ·intro m o
  intro R bw aw
  exact wR 1 [(35, iv k)] bw (W_nil (oE (iv k) [] ⟨by kernel_rfl, rfl⟩ aw))
 ·intro m o
  intro v1_ hb1_
  obtain ⟨rfl, _⟩ := hb1_
  intro v2_ hb2_
  obtain ⟨rfl, _⟩ := hb2_
  intro R bx ab
  exact wV (.slice (subP c (0 : Int).toNat b 1) N.length (b - (0 : Int).toNat)) bx (E_slice (E := Gx.encI) _ _ _ _ d.length 0 k rfl (by kernel_rfl) (Or.inl ⟨rfl, rfl⟩) (Or.inr ⟨_, rfl, by kernel_rfl⟩) (by kernel_rfl) (A.rd ab 0 (by kernel_rfl)) rfl ak) (W_nil (oE (.slice (subP c (0 : Int).toNat b 1) N.length (b - (0 : Int).toNat)) [] ⟨by kernel_rfl, rfl⟩ ab))
 ·intro m o
  intro v0_ hb0_
  obtain ⟨B, x, rfl, V⟩ := hb0_
  intro v3_ hb3_
  obtain ⟨rfl, _⟩ := hb3_
  intro R cb ac
  refine wA 8 [iv 0] 2 ac V ((A.rd ac 0 (by kernel_rfl)).sliceM ak) bc ?_
  intro C y bp cc W ax
  exact W_nil (oE (.slice C H.length y) bp ⟨C, y, rfl, W⟩ (Mem.takeOver ax))
 ·intro m o
  intro R bz ay
  exact wR 1 [(38, iv g)] bz (W_nil (oE (iv g) [] ⟨by kernel_rfl, rfl⟩ ay))
 ·intro m o
  intro v5_ hb5_
  obtain ⟨rfl, _⟩ := hb5_
  intro R cd az
  refine wL (E := Gx.encI) [g] 1 [iv g] 3 az ?_
  intro u t bq ce L a0
  exact W_nil (oE (.slice u [g].length t) bq ⟨u, t, rfl, L⟩ (Mem.mid a0))
 ·intro m o
  intro v4_ hb4_
  obtain ⟨C, y, rfl, W⟩ := hb4_
  intro v6_ hb6_
  obtain ⟨u, t, rfl, L⟩ := hb6_
  intro R cf ad
  refine wA 8 [iv 0] 2 ad W (L.rd ad 3 (by kernel_rfl)) bd ?_
  intro D z br cg X a3
  exact W_nil (oE (.slice D I.length z) br ⟨D, z, rfl, X⟩ (Mem.takeOver a3))
 ·intro m o
  intro R b0 a4
  exact wR 1 [(41, .slice c d.length b)] b0 (W_nil (oE (.slice c d.length b) [] ⟨by kernel_rfl, rfl⟩ a4))
 ·intro m o
  intro R b1 a5
  exact wR 1 [(42, iv k)] b1 (W_nil (oE (iv k) [] ⟨by kernel_rfl, rfl⟩ a5))
 ·intro m o
  intro v8_ hb8_
  obtain ⟨rfl, _⟩ := hb8_
  intro v9_ hb9_
  obtain ⟨rfl, _⟩ := hb9_
  intro R b2 ae
  exact wV (.slice (subP c k.toNat b 1) O.length (b - k.toNat)) b2 (E_slice (E := Gx.encI) _ _ _ _ d.length k (d.length : Int) rfl (by kernel_rfl) (Or.inr ⟨_, rfl, by kernel_rfl⟩) (Or.inl ⟨rfl, rfl⟩) (by kernel_rfl) (A.rd ae 0 (by kernel_rfl)) rfl al) (W_nil (oE (.slice (subP c k.toNat b 1) O.length (b - k.toNat)) [] ⟨by kernel_rfl, rfl⟩ ae))
 intro m o
 intro v6_ hb6_
 obtain ⟨u, t, rfl, L⟩ := hb6_
 intro v7_ hb7_
 obtain ⟨D, z, rfl, X⟩ := hb7_
 intro v10_ hb10_
 obtain ⟨rfl, _⟩ := hb10_
 intro b3 a6
 have af : Mem (idsOf [l]) w b3 [l, (m 6), (m 7)] := a6
 obtain ⟨ag, be, hm⟩ := gx_bind hm
 refine wA 8 [iv 0] 2 af X ((A.rd af 0 (by kernel_rfl)).sliceM al) be ?_
 intro Y P bs b4 bk a7
 refine wR 1 [(4, .slice Y ag.length P)] b4 (W_nil (N_then (G_ret ?_)))
 obtain rfl := Option.some.inj hm
 exact N_ret [.slice Y ag.length P] (rC RVs_nil) (⟨Y, P, bs, rfl, bk, a7.pk [2]⟩)
theorem c_s_l8Active (w : World) (d : List Slot) (c : Option Addr) (f : Nat) (k : rdS encSlot w d c f) {r : (List Int)} (hm : M.s_l8Active d = some r) :
  Calls Tryz.prog 155 #[.slice c d.length f] w fun e w' => ∃ (O : Option Addr) (L : Nat) (Q : Seg), e = .returned (.slice O r.length L) ∧ ownS Gx.encI r O L Q ∧ Mem [] w w' [Q] := by
 unfold M.s_l8Active at hm
 refine cE Tryz.func155 ?_
 have M0 := Mem.refl [] w
 refine G_seq (G_region (wR 1 [(0, .slice c d.length f)] w (W_nil (N_then (G_seq (G_region (wL (E := Gx.encI) ([] : List Int) 0 [] 3 M0 ?_)))))))
 intro J z ar R ag V
 refine wR 1 [(0, .slice c d.length f), (3, .slice J ([] : List Int).length z)] R (W_nil (N_then (G_seq (G_seq (G_region (wR 1 [(0, .slice c d.length f), (3, .slice J ([] : List Int).length z), (4, iv 0)] R (W_nil (N_then ?_))))))))
 obtain ⟨v, ao, af⟩ := gx_bind hm
 refine G_meet (fun a w' => ∃ (o : Option Addr), ∃ (n : Nat), ∃ (x : Seg), ownS Gx.encI v o n x ∧ Mem [] w w' [x] ∧ Sat Tryz.f155.ntmps [(3, .slice o v.length n)] a) ?_ ?_
 ·refine G_block (G_while (σ := List Int × Int) (ρ := List Int) (fun b a w' => ∃ (h : Option Addr), ∃ (g : Nat), ∃ (m : Seg), ownS Gx.encI b.1 h g m ∧ Mem [] w w' [m] ∧ Sat Tryz.f155.ntmps [(0, .slice c d.length f), (3, .slice h b.1.length g), (4, iv b.2)] a) ao (fun a ha => ⟨J, z, ar, ag, V.pk [0], ha.s⟩) ?_)
  clear hm
  intro b a4 hm am ay i ⟨h, g, m, D, j, Z⟩
  refine G_use Z (G_seq (G_seq (G_region (wR 4 [(0, .slice c d.length f), (3, .slice h b.1.length g), (4, iv b.2), (9, .bool (decide (b.2 < (d.length : Int))))] i (W_nil (N_then ?_))))))
  rcases gx_bif hm with ⟨A, hm⟩ | ⟨A, hm⟩
  ·refine gT A (G_skip (N_then (G_seq (G_block (G_seq ?_)))))
   obtain ⟨ap, ai, ad⟩ := gx_bind hm
   refine G_meet (fun a w' => Mem [] w w' [m] ∧ Sat Tryz.f155.ntmps [(0, .slice c d.length f), (3, .slice h b.1.length g), (4, iv b.2), (25, .bool ap)] a) ?_ ?_
   ·have hm := ai
    refine G_region (wR 2 [(0, .slice c d.length f), (3, .slice h b.1.length g), (4, iv b.2), (12, .slice c d.length f), (13, iv b.2)] i ?_)
    obtain ⟨S, F, hm⟩ := gx_bind hm
    refine wV (elemP c (b.2.toNat * 3)) i (eI (k.mem0 j) rfl F) (wV (elemP c (b.2.toNat * 3 + 0)) i (eF 0 (b.2.toNat * 3) 0 (k.mem0 j) F) (wV (iv S.State) i (eE false 1 0 (b.2.toNat * 3 + 0) (k.mem0 j) F) (wR 2 [(0, .slice c d.length f), (3, .slice h b.1.length g), (4, iv b.2), (18, .bool (S.State == 2))] i ?_)))
    rcases gx_bif hm with ⟨B, hm⟩ | ⟨B, hm⟩
    ·refine wK 18 true B (wR 7 [(0, .slice c d.length f), (3, .slice h b.1.length g), (4, iv b.2), (25, .bool true)] i (W_nil ?_))
     obtain rfl := Option.some.inj hm
     exact N_meet fun a ha => ⟨j.pk [0], ha.s⟩
    refine wK 18 false B (wR 2 [(0, .slice c d.length f), (3, .slice h b.1.length g), (4, iv b.2), (18, .bool false), (19, .slice c d.length f), (20, iv b.2)] i ?_)
    obtain ⟨T, G, hm⟩ := gx_bind hm
    refine wV (elemP c (b.2.toNat * 3)) i (eI (k.mem0 j) rfl G) (wV (elemP c (b.2.toNat * 3 + 0)) i (eF 0 (b.2.toNat * 3) 0 (k.mem0 j) G) (wV (iv T.State) i (eE false 1 0 (b.2.toNat * 3 + 0) (k.mem0 j) G) (wR 2 [(0, .slice c d.length f), (3, .slice h b.1.length g), (4, iv b.2), (25, .bool (T.State == 3))] i (W_nil ?_))))
    obtain rfl := Option.some.inj hm
    exact N_meet fun a ha => ⟨j.pk [0], ha.s⟩
   intro az u ⟨l, aa⟩
   refine N_use aa ?_
   have hm := ad
   refine N_then ?_
   obtain ⟨I, aj, ae⟩ := gx_bind hm
   refine G_meet (fun a w' => ∃ (t : Option Addr), ∃ (q : Nat), ∃ (y : Seg), ownS Gx.encI I t q y ∧ Mem [] w w' [y] ∧ Sat Tryz.f155.ntmps [(0, .slice c d.length f), (3, .slice t I.length q), (4, iv b.2)] a) ?_ ?_
   ·have hm := aj
    rcases gx_bif hm with ⟨C, hm⟩ | ⟨C, hm⟩
    ·refine gT C (G_region (wR 3 [(0, .slice c d.length f), (3, .slice h b.1.length g), (4, iv b.2), (26, .slice h b.1.length g), (27, .slice c d.length f), (28, iv b.2)] u ?_))
     obtain ⟨K, H, hm⟩ := gx_bind hm
     refine wV (elemP c (b.2.toNat * 3)) u (eI (k.mem0 l) rfl H) (wV (elemP c (b.2.toNat * 3 + 1)) u (eF 1 (b.2.toNat * 3) 1 (k.mem0 l) H) (wV (iv K.Irq) u (eE false 1 1 (b.2.toNat * 3 + 1) (k.mem0 l) H) ?_))
     obtain ⟨aq, an, hm⟩ := gx_bind hm
     refine wC 191 #[.slice h b.1.length g, iv K.Irq] ((c_s_l1Put u b.1 h g m D K.Irq (l.hasPick [0]) (l.nodupPick [0] (by kernel_rfl)) an).mono ?_)
     rintro e_ av ⟨P, N, au, rfl, al, U⟩
     have W := l.callF' [0] [] (by kernel_rfl) U
     refine ⟨_, rfl, ?_⟩
     refine wR 1 [(0, .slice c d.length f), (3, .slice P aq.length N), (4, iv b.2)] av (W_nil ?_)
     obtain rfl := Option.some.inj hm
     exact N_meet fun a ha => ⟨P, N, au, al, W.pk [0], ha.s⟩
    refine gF C (G_skip ?_)
    obtain rfl := Option.some.inj hm
    exact N_meet fun a ha => ⟨h, g, m, D, l.pk [0], ha.s⟩
   intro a0 aw ⟨t, q, y, ak, X, ab⟩
   refine N_use ab ?_
   have hm := ae
   refine N_block (N_then (G_region (wR 3 [(0, .slice c d.length f), (3, .slice t I.length q), (4, iv (w64 (b.2 + 1)))] aw (W_nil ?_))))
   obtain rfl := Option.some.inj hm
   exact N_loop fun a ha => ⟨_, rfl, t, q, y, ak, X.pk [0], ha.s⟩
  refine gF A (G_exit (N_then_exit (N_then_exit (N_block_eq ?_))))
  obtain rfl := Option.some.inj hm
  obtain rfl := am _ rfl
  exact N_meet fun a ha => ⟨h, g, m, D, j.pk [0], ha.s⟩
 intro a3 ax ⟨o, n, x, ah, Y, ac⟩
 refine N_use ac ?_
 have hm := af
 refine N_then (G_seq (G_region (wR 2 [(2, .slice o v.length n)] ax (W_nil (N_then (G_ret ?_))))))
 obtain rfl := Option.some.inj hm
 exact N_ret [.slice o v.length n] (rC RVs_nil) (⟨o, n, x, rfl, ah, Y.pk [0]⟩)
theorem c_s_l1Has (w : World) (b : List Int) (c : Option Addr) (d : Nat) (l : rdS Gx.encI w b c d) (g : Int) {r : Bool} (hm : M.s_l1Has b g = some r) :
  Calls Tryz.prog 131 #[.slice c b.length d, iv g] w fun e w' => e = .returned (.bool r) ∧ Mem [] w w' [] := by
 unfold M.s_l1Has at hm
 refine cE Tryz.func131 ?_
 have M0 := Mem.refl [] w
 refine G_seq (G_region (wR 1 [(0, .slice c b.length d), (1, iv g)] w (W_nil (N_then (G_seq (G_seq (G_region (wR 1 [(0, .slice c b.length d), (1, iv g), (5, iv 0)] w (W_nil (N_then ?_))))))))))
 obtain ⟨z, y, m⟩ := gx_bind hm
 refine G_meet (fun a w' => ∃ (q : Unit), z = .inl q ∧ Mem [] w w' [] ∧ Sat Tryz.f131.ntmps [] a) ?_ ?_
 ·refine G_block (G_while (σ := Int) (ρ := (Unit) ⊕ (Bool)) (fun f a w' => Mem [] w w' [] ∧ Sat Tryz.f131.ntmps [(0, .slice c b.length d), (1, iv g), (5, iv f)] a) y (fun a ha => ⟨M0.pk [], ha.s⟩) ?_)
  clear hm
  intro f D hm n B h ⟨i, v⟩
  refine G_use v (G_seq (G_seq (G_region (wR 4 [(0, .slice c b.length d), (1, iv g), (5, iv f), (9, .bool (decide (f < (b.length : Int))))] h (W_nil (N_then ?_))))))
  rcases gx_bif hm with ⟨j, hm⟩ | ⟨j, hm⟩
  ·refine gT j (G_skip (N_then (G_seq (G_block (G_seq (G_region (wR 2 [(0, .slice c b.length d), (1, iv g), (5, iv f), (12, .slice c b.length d), (13, iv f)] h ?_)))))))
   obtain ⟨t, o, hm⟩ := gx_bind hm
   refine wV (elemP c (f.toNat * 1)) h (eI (l.mem0 i) rfl o) (wV (iv t) h (eE false 1 0 (f.toNat * 1) (l.mem0 i) o) (wR 2 [(0, .slice c b.length d), (1, iv g), (5, iv f), (17, .bool (t == g))] h (W_nil (N_then ?_))))
   rcases gx_bif hm with ⟨k, hm⟩ | ⟨k, hm⟩
   ·refine gT k (G_seq (G_region (wR 1 [(4, .bool true)] h (W_nil (N_then (G_ret (N_block_ret (N_then_ret (N_then_ret ?_)))))))))
    obtain rfl := Option.some.inj hm
    obtain rfl := n _ rfl
    have hm := m; simp only [Sum.elim_inr] at hm
    refine N_block_ret (N_meet_ret (N_then_ret ?_))
    obtain rfl := Option.some.inj hm
    exact N_ret [.bool true] (rC RVs_nil) (⟨rfl, i.pk []⟩)
   refine gF k (G_skip (N_block (N_then (G_region (wR 3 [(0, .slice c b.length d), (1, iv g), (5, iv (w64 (f + 1)))] h (W_nil ?_))))))
   obtain rfl := Option.some.inj hm
   exact N_loop fun a ha => ⟨_, rfl, i.pk [], ha.s⟩
  refine gF j (G_exit (N_then_exit (N_then_exit (N_block_eq ?_))))
  obtain rfl := Option.some.inj hm
  obtain rfl := n _ rfl
  exact N_meet fun a ha => ⟨_, rfl, i.pk [], ha.s⟩
 intro C A ⟨q, hout_, u, x⟩
 refine N_use x ?_
 subst hout_
 have hm := m; simp only [Sum.elim_inl] at hm
 refine N_then (G_seq (G_region (wR 1 [(4, .bool false)] A (W_nil (N_then (G_ret ?_))))))
 obtain rfl := Option.some.inj hm
 exact N_ret [.bool false] (rC RVs_nil) (⟨rfl, u.pk []⟩)
theorem c_s_l10Level (w : World) (a : Queue) (b : Option Addr) (c : Nat) (h : rdS encSlot w a.Slots b c) (l : Option Addr) (j : Nat) (t : rdS encWaiter w a.Waiting l j) (d : Int) {r : Int} (hm : M.s_l10Level a d = some r) :
  Calls Tryz.prog 156 #[.agg #[.slice b a.Slots.length c, .slice l a.Waiting.length j], iv d] w fun e w' => e = .returned (iv r) ∧ Mem [] w w' [] := by
 unfold M.s_l10Level at hm
 refine cE Tryz.func156 ?_
 have M0 := Mem.refl [] w
 refine G_seq (G_region (wN (.cells ⟨[.slice b a.Slots.length c, .slice l a.Waiting.length j]⟩ 85 (0, 0)) M0 ?_))
 intro f q m
 refine wR 1 [(1, iv d), (2, pB f 0)] q (W_nil (N_then (G_seq (G_quiet (by kernel_rfl) (by kernel_rfl) m (zR [pB f 0] [(1, iv d), (2, pB f 0), (5, pB f 0)] (zV (.slice b a.Slots.length c) (fun w_ M_ => (eL false 1 0 (M_.blk 0 rfl))) (zR [pB f 0] [(1, iv d), (6, .slice b a.Slots.length c), (7, pB f 0)] (zV (.slice b a.Slots.length c) (fun w_ M_ => (eL false 1 0 (M_.blk 0 rfl))) (zR [iv d] [(6, .slice b a.Slots.length c), (8, .slice b a.Slots.length c), (9, iv d)] ?_)))))))))
 obtain ⟨g, o, hm⟩ := gx_bind hm
 refine Z_call 192 #[.slice b a.Slots.length c, iv d] (iv g) (by kernel_rfl) (fun w_ => by kernel_rfl) (fun w_ M_ => (c_s_l8Find w_ a.Slots b c (h.mem0 M_) d o).mono fun e w2_ h_ => ⟨h_.1, M_.call0 h_.2⟩) ?_
 obtain ⟨i, k, hm⟩ := gx_bind hm
 refine zV (elemP b (g.toNat * 3)) (fun w_ M_ => (eI (h.mem0 M_) rfl k)) (zV (elemP b (g.toNat * 3 + 2)) (fun w_ M_ => (eF 2 (g.toNat * 3) 2 (h.mem0 M_) k)) (zV (iv i.Priority) (fun w_ M_ => (eE false 1 2 (g.toNat * 3 + 2) (h.mem0 M_) k)) (zR [iv i.Priority] [(4, iv i.Priority)] (Z_end fun u n => (N_then (G_ret ?_))))))
 obtain rfl := Option.some.inj hm
 exact N_ret [iv i.Priority] (rC RVs_nil) (⟨rfl, n.pk []⟩)
theorem c_s_l10Good (w : World) (b : Interface) (j : Option Addr) (i : Nat) (o : rdS Gx.encI w b.Stack j i) (l : Option Addr) (k : Nat) (y : rdS encSlot w b.Queue.Slots l k) (n : Option Addr) (m : Nat) (G : rdS encWaiter w b.Queue.Waiting n m) {r : Bool} (hm : M.s_l10Good b = some r) :
  Calls Tryz.prog 104 #[.agg #[iv b.Mask, .slice j b.Stack.length i, .slice l b.Queue.Slots.length k, .slice n b.Queue.Waiting.length m]] w fun e w' => e = .returned (.bool r) ∧ Mem [] w w' [] := by
 unfold M.s_l10Good at hm
 refine cE Tryz.func104 ?_
 have M0 := Mem.refl [] w
 refine G_seq (G_region (wN (.cells ⟨[iv b.Mask, .slice j b.Stack.length i, .slice l b.Queue.Slots.length k, .slice n b.Queue.Waiting.length m]⟩ 87 (0, 0)) M0 ?_))
 intro c C Y
 refine wR 1 [(1, pB c 0)] C (W_nil (N_then (G_seq (G_seq ?_))))
 obtain ⟨bh, a5, a0⟩ := gx_bind hm
 refine G_meet (fun a w' => Mem [] w w' [[(c, .cells ⟨[iv b.Mask, .slice j b.Stack.length i, .slice l b.Queue.Slots.length k, .slice n b.Queue.Waiting.length m]⟩ 87 (0, 0))]] ∧ Sat Tryz.f104.ntmps [(1, pB c 0), (14, .bool bh)] a) ?_ ?_
 ·have hm := a5
  refine G_region (wR 1 [(1, pB c 0), (5, pB c 0)] C (wV (iv b.Mask) C (eL false 1 0 (Y.blk 0 rfl)) ?_))
  obtain ⟨bl, a9, hm⟩ := gx_bind hm
  refine wC 124 #[iv b.Mask, iv 0, iv 16] ((c_s_l1In C b.Mask 0 16 a9).mono ?_)
  rintro e_ u ⟨rfl, ak⟩
  have t := Y.call0 ak
  refine ⟨_, rfl, ?_⟩
  refine wR 2 [(1, pB c 0), (9, .bool (!bl))] u ?_
  rcases gx_bif hm with ⟨H, hm⟩ | ⟨H, hm⟩
  ·refine wK 9 true H (wR 5 [(1, pB c 0), (14, .bool true)] u (W_nil ?_))
   obtain rfl := Option.some.inj hm
   exact N_meet fun a ha => ⟨t.pk [0], ha.s⟩
  refine wK 9 false H (wR 1 [(1, pB c 0), (9, .bool false), (10, pB c 2)] u (wV (.agg #[.slice l b.Queue.Slots.length k, .slice n b.Queue.Waiting.length m]) u (eL true 2 2 (t.blk 0 rfl)) ?_))
  obtain ⟨bm, ba, hm⟩ := gx_bind hm
  refine wC 154 #[.agg #[.slice l b.Queue.Slots.length k, .slice n b.Queue.Waiting.length m]] ((c_s_l9Good u (⟨b.Queue.Slots, b.Queue.Waiting⟩ : Queue) l k (y.mem0 t) n m (G.mem0 t) ba).mono ?_)
  rintro e_ bn ⟨rfl, al⟩
  have an := t.call0 al
  refine ⟨_, rfl, ?_⟩
  refine wR 2 [(1, pB c 0), (14, .bool (!bm))] bn (W_nil ?_)
  obtain rfl := Option.some.inj hm
  exact N_meet fun a ha => ⟨an.pk [0], ha.s⟩
 intro bp D ⟨x, av⟩
 refine N_use av ?_
 have hm := a0
 refine N_then ?_
 rcases gx_bif hm with ⟨I, hm⟩ | ⟨I, hm⟩
 ·refine gT I (G_seq (G_region (wR 1 [(2, .bool false)] D (W_nil (N_then (G_ret (N_then_ret ?_)))))))
  obtain rfl := Option.some.inj hm
  exact N_ret [.bool false] (rC RVs_nil) (⟨rfl, x.pk []⟩)
 refine gF I (G_skip (N_then (G_seq (G_region (wR 2 [(1, pB c 0), (16, pB c 2)] D (wV (.slice l b.Queue.Slots.length k) D (eL false 1 2 (x.blk 0 rfl)) ?_))))))
 obtain ⟨f, bb, hm⟩ := gx_bind hm
 refine wC 155 #[.slice l b.Queue.Slots.length k] ((c_s_l8Active D b.Queue.Slots l k (y.mem0 x) bb).mono ?_)
 rintro e_ ai ⟨h, g, B, rfl, a6, am⟩
 have ao := x.call am
 refine ⟨_, rfl, ?_⟩
 refine wR 1 [(1, pB c 0), (3, .slice h f.length g)] ai (W_nil (N_then (G_seq (G_seq (G_region (wR 1 [(1, pB c 0), (3, .slice h f.length g), (4, iv 0)] ai (W_nil (N_then ?_))))))))
 obtain ⟨bk, bg, P⟩ := gx_bind hm
 refine G_meet (fun a w' => ∃ (ah : Unit), bk = .inl ah ∧ Mem [] w w' [[(c, .cells ⟨[iv b.Mask, .slice j b.Stack.length i, .slice l b.Queue.Slots.length k, .slice n b.Queue.Waiting.length m]⟩ 87 (0, 0))], B] ∧ Sat Tryz.f104.ntmps [(1, pB c 0), (3, .slice h f.length g)] a) ?_ ?_
 ·refine G_block (G_while (σ := Int) (ρ := (Unit) ⊕ (Bool)) (fun d a w' => Mem [] w w' [[(c, .cells ⟨[iv b.Mask, .slice j b.Stack.length i, .slice l b.Queue.Slots.length k, .slice n b.Queue.Waiting.length m]⟩ 87 (0, 0))], B] ∧ Sat Tryz.f104.ntmps [(1, pB c 0), (3, .slice h f.length g), (4, iv d)] a) bg (fun a ha => ⟨ao.pk [0, 1], ha.s⟩) ?_)
  clear hm
  intro d bz hm Q bq S ⟨F, aw⟩
  refine G_use aw (G_seq (G_seq (G_region (wR 2 [(1, pB c 0), (3, .slice h f.length g), (4, iv d), (19, iv d), (20, pB c 1)] S (wV (.slice j b.Stack.length i) S (eL false 1 1 (F.blk 0 rfl)) (wR 2 [(1, pB c 0), (3, .slice h f.length g), (4, iv d), (23, .bool (decide (d < (b.Stack.length : Int))))] S (W_nil (N_then ?_))))))))
  rcases gx_bif hm with ⟨J, hm⟩ | ⟨J, hm⟩
  ·refine gT J (G_skip (N_then (G_seq (G_block (G_seq (G_seq ?_))))))
   obtain ⟨bi, a7, a3⟩ := gx_bind hm
   refine G_meet (fun a w' => Mem [] w w' [[(c, .cells ⟨[iv b.Mask, .slice j b.Stack.length i, .slice l b.Queue.Slots.length k, .slice n b.Queue.Waiting.length m]⟩ 87 (0, 0))], B] ∧ Sat Tryz.f104.ntmps [(1, pB c 0), (3, .slice h f.length g), (4, iv d), (45, .bool bi)] a) ?_ ?_
   ·have hm := a7
    refine G_quiet (by kernel_rfl) (by kernel_rfl) F (zR [.slice h f.length g, pB c 1] [(1, pB c 0), (3, .slice h f.length g), (4, iv d), (26, .slice h f.length g), (27, pB c 1)] (zV (.slice j b.Stack.length i) (fun w_ M_ => (eL false 1 1 (M_.blk 0 rfl))) (zR [iv d] [(1, pB c 0), (3, .slice h f.length g), (4, iv d), (26, .slice h f.length g), (28, .slice j b.Stack.length i), (29, iv d)] ?_)))
    obtain ⟨U, ac, hm⟩ := gx_bind hm
    refine zV (elemP j (d.toNat * 1)) (fun w_ M_ => (eI (o.mem0 M_) rfl ac)) (zV (iv U) (fun w_ M_ => (eE false 1 0 (d.toNat * 1) (o.mem0 M_) ac)) ?_)
    obtain ⟨z, bc, hm⟩ := gx_bind hm
    refine Z_call 131 #[.slice h f.length g, iv U] (.bool z) (by kernel_rfl) (fun w_ => by kernel_rfl) (fun w_ M_ => (c_s_l1Has w_ f h g (a6.rd M_ 1 (by kernel_rfl)) U bc).mono fun e w2_ h_ => ⟨h_.1, M_.call0 h_.2⟩) (zR [.bool (!z), .bool (!z)] [(1, pB c 0), (3, .slice h f.length g), (4, iv d), (34, .bool (!z))] ?_)
    rcases gx_bif hm with ⟨K, hm⟩ | ⟨K, hm⟩
    ·refine zK 34 true K (zR [undef, undef, undef, undef, undef, undef, undef, undef, undef, undef, .bool true] [(1, pB c 0), (3, .slice h f.length g), (4, iv d), (45, .bool true)] (Z_end fun bu ap => ?_))
     obtain rfl := Option.some.inj hm
     exact N_meet fun a ha => ⟨ap.pk [0, 1], ha.s⟩
    refine zK 34 false K (zR [pB c 1] [(1, pB c 0), (3, .slice h f.length g), (4, iv d), (34, .bool false), (35, pB c 1)] (zV (.slice j b.Stack.length i) (fun w_ M_ => (eL false 1 1 (M_.blk 0 rfl))) (zR [iv d] [(1, pB c 0), (3, .slice h f.length g), (4, iv d), (34, .bool false), (36, .slice j b.Stack.length i), (37, iv d)] ?_)))
    obtain ⟨v, ag, hm⟩ := gx_bind hm
    refine zV (.slice (subP j (0 : Int).toNat i 1) v.length (i - (0 : Int).toNat)) (fun w_ M_ => (E_slice (E := Gx.encI) _ _ _ _ b.Stack.length 0 d rfl (by kernel_rfl) (Or.inl ⟨rfl, rfl⟩) (Or.inr ⟨_, rfl, by kernel_rfl⟩) (by kernel_rfl) (o.mem0 M_) rfl ag)) (zR [pB c 1] [(1, pB c 0), (3, .slice h f.length g), (4, iv d), (34, .bool false), (38, .slice (subP j (0 : Int).toNat i 1) v.length (i - (0 : Int).toNat)), (39, pB c 1)] (zV (.slice j b.Stack.length i) (fun w_ M_ => (eL false 1 1 (M_.blk 0 rfl))) (zR [iv d] [(1, pB c 0), (3, .slice h f.length g), (4, iv d), (34, .bool false), (38, .slice (subP j (0 : Int).toNat i 1) v.length (i - (0 : Int).toNat)), (40, .slice j b.Stack.length i), (41, iv d)] ?_)))
    obtain ⟨V, ad, hm⟩ := gx_bind hm
    refine zV (elemP j (d.toNat * 1)) (fun w_ M_ => (eI (o.mem0 M_) rfl ad)) (zV (iv V) (fun w_ M_ => (eE false 1 0 (d.toNat * 1) (o.mem0 M_) ad)) ?_)
    obtain ⟨R, bd, hm⟩ := gx_bind hm
    refine Z_call 131 #[.slice (subP j (0 : Int).toNat i 1) v.length (i - (0 : Int).toNat), iv V] (.bool R) (by kernel_rfl) (fun w_ => by kernel_rfl) (fun w_ M_ => (c_s_l1Has w_ v (subP j (0 : Int).toNat i 1) (i - (0 : Int).toNat) ((o.mem0 M_).sliceM ag) V bd).mono fun e w2_ h_ => ⟨h_.1, M_.call0 h_.2⟩) (zR [.bool R] [(1, pB c 0), (3, .slice h f.length g), (4, iv d), (45, .bool R)] (Z_end fun bv aq => ?_))
    obtain rfl := Option.some.inj hm
    exact N_meet fun a ha => ⟨aq.pk [0, 1], ha.s⟩
   intro br bo ⟨Z, ax⟩
   refine N_use ax ?_
   have hm := a3
   refine N_then ?_
   rcases gx_bif hm with ⟨L, hm⟩ | ⟨L, hm⟩
   ·refine gT L (G_seq (G_region (wR 1 [(2, .bool false)] bo (W_nil (N_then (G_ret (N_then_ret (N_block_ret (N_then_ret (N_then_ret ?_))))))))))
    obtain rfl := Option.some.inj hm
    obtain rfl := Q _ rfl
    have hm := P; simp only [Sum.elim_inr] at hm
    refine N_block_ret (N_meet_ret (N_then_ret ?_))
    obtain rfl := Option.some.inj hm
    exact N_ret [.bool false] (rC RVs_nil) (⟨rfl, Z.pk []⟩)
   refine gF L (G_skip (N_then (G_seq ?_)))
   obtain ⟨bj, a8, a4⟩ := gx_bind hm
   refine G_meet (fun a w' => Mem [] w w' [[(c, .cells ⟨[iv b.Mask, .slice j b.Stack.length i, .slice l b.Queue.Slots.length k, .slice n b.Queue.Waiting.length m]⟩ 87 (0, 0))], B] ∧ Sat Tryz.f104.ntmps [(1, pB c 0), (3, .slice h f.length g), (4, iv d), (67, .bool bj)] a) ?_ ?_
   ·have hm := a8
    refine G_quiet (by kernel_rfl) (by kernel_rfl) Z (zR [iv d, .bool (decide (d > 0)), .bool (decide (d > 0))] [(1, pB c 0), (3, .slice h f.length g), (4, iv d), (48, .bool (decide (d > 0)))] ?_)
    rcases gx_bif hm with ⟨N, hm⟩ | ⟨N, hm⟩
    ·refine zK 48 true N (zR [pB c 2] [(1, pB c 0), (3, .slice h f.length g), (4, iv d), (48, .bool true), (49, pB c 2)] (zV (.agg #[.slice l b.Queue.Slots.length k, .slice n b.Queue.Waiting.length m]) (fun w_ M_ => (eL true 2 2 (M_.blk 0 rfl))) (zR [pB c 1] [(1, pB c 0), (3, .slice h f.length g), (4, iv d), (48, .bool true), (50, .agg #[.slice l b.Queue.Slots.length k, .slice n b.Queue.Waiting.length m]), (51, pB c 1)] (zV (.slice j b.Stack.length i) (fun w_ M_ => (eL false 1 1 (M_.blk 0 rfl))) (zR [iv d, iv (w64 (d - 1))] [(1, pB c 0), (3, .slice h f.length g), (4, iv d), (48, .bool true), (50, .agg #[.slice l b.Queue.Slots.length k, .slice n b.Queue.Waiting.length m]), (52, .slice j b.Stack.length i), (54, iv (w64 (d - 1)))] ?_)))))
     obtain ⟨W, ae, hm⟩ := gx_bind hm
     refine zV (elemP j ((w64 (d - 1)).toNat * 1)) (fun w_ M_ => (eI (o.mem0 M_) rfl ae)) (zV (iv W) (fun w_ M_ => (eE false 1 0 ((w64 (d - 1)).toNat * 1) (o.mem0 M_) ae)) ?_)
     obtain ⟨q, be, hm⟩ := gx_bind hm
     refine Z_call 156 #[.agg #[.slice l b.Queue.Slots.length k, .slice n b.Queue.Waiting.length m], iv W] (iv q) (by kernel_rfl) (fun w_ => by kernel_rfl) (fun w_ M_ => (c_s_l10Level w_ (⟨b.Queue.Slots, b.Queue.Waiting⟩ : Queue) l k (y.mem0 M_) n m (G.mem0 M_) W be).mono fun e w2_ h_ => ⟨h_.1, M_.call0 h_.2⟩) (zR [pB c 2] [(1, pB c 0), (3, .slice h f.length g), (4, iv d), (48, .bool true), (57, iv q), (58, pB c 2)] (zV (.agg #[.slice l b.Queue.Slots.length k, .slice n b.Queue.Waiting.length m]) (fun w_ M_ => (eL true 2 2 (M_.blk 0 rfl))) (zR [pB c 1] [(1, pB c 0), (3, .slice h f.length g), (4, iv d), (48, .bool true), (57, iv q), (59, .agg #[.slice l b.Queue.Slots.length k, .slice n b.Queue.Waiting.length m]), (60, pB c 1)] (zV (.slice j b.Stack.length i) (fun w_ M_ => (eL false 1 1 (M_.blk 0 rfl))) (zR [iv d] [(1, pB c 0), (3, .slice h f.length g), (4, iv d), (48, .bool true), (57, iv q), (59, .agg #[.slice l b.Queue.Slots.length k, .slice n b.Queue.Waiting.length m]), (61, .slice j b.Stack.length i), (62, iv d)] ?_)))))
     obtain ⟨X, af, hm⟩ := gx_bind hm
     refine zV (elemP j (d.toNat * 1)) (fun w_ M_ => (eI (o.mem0 M_) rfl af)) (zV (iv X) (fun w_ M_ => (eE false 1 0 (d.toNat * 1) (o.mem0 M_) af)) ?_)
     obtain ⟨A, bf, hm⟩ := gx_bind hm
     refine Z_call 156 #[.agg #[.slice l b.Queue.Slots.length k, .slice n b.Queue.Waiting.length m], iv X] (iv A) (by kernel_rfl) (fun w_ => by kernel_rfl) (fun w_ M_ => (c_s_l10Level w_ (⟨b.Queue.Slots, b.Queue.Waiting⟩ : Queue) l k (y.mem0 M_) n m (G.mem0 M_) X bf).mono fun e w2_ h_ => ⟨h_.1, M_.call0 h_.2⟩) (zR [.bool (decide (q ≤ A)), .bool (decide (q ≤ A))] [(1, pB c 0), (3, .slice h f.length g), (4, iv d), (67, .bool (decide (q ≤ A)))] (Z_end fun bw ar => ?_))
     obtain rfl := Option.some.inj hm
     exact N_meet fun a ha => ⟨ar.pk [0, 1], ha.s⟩
    refine zK 48 false N (zR [undef, undef, undef, undef, undef, undef, undef, undef, undef, undef, undef, undef, undef, undef, undef, undef, undef, undef, .bool false] [(1, pB c 0), (3, .slice h f.length g), (4, iv d), (67, .bool false)] (Z_end fun bx au => ?_))
    obtain rfl := Option.some.inj hm
    exact N_meet fun a ha => ⟨au.pk [0, 1], ha.s⟩
   intro bs aj ⟨aa, ay⟩
   refine N_use ay ?_
   have hm := a4
   refine N_then ?_
   rcases gx_bif hm with ⟨O, hm⟩ | ⟨O, hm⟩
   ·refine gT O (G_seq (G_region (wR 1 [(2, .bool false)] aj (W_nil (N_then (G_ret (N_block_ret (N_then_ret (N_then_ret ?_)))))))))
    obtain rfl := Option.some.inj hm
    obtain rfl := Q _ rfl
    have hm := P; simp only [Sum.elim_inr] at hm
    refine N_block_ret (N_meet_ret (N_then_ret ?_))
    obtain rfl := Option.some.inj hm
    exact N_ret [.bool false] (rC RVs_nil) (⟨rfl, aa.pk []⟩)
   refine gF O (G_skip (N_block (N_then (G_region (wR 3 [(1, pB c 0), (3, .slice h f.length g), (4, iv (w64 (d + 1)))] aj (W_nil ?_))))))
   obtain rfl := Option.some.inj hm
   exact N_loop fun a ha => ⟨_, rfl, aa.pk [0, 1], ha.s⟩
  refine gF J (G_exit (N_then_exit (N_then_exit (N_block_eq ?_))))
  obtain rfl := Option.some.inj hm
  obtain rfl := Q _ rfl
  exact N_meet fun a ha => ⟨_, rfl, F.pk [0, 1], ha.s⟩
 intro bt T ⟨ah, hout_, ab, az⟩
 refine N_use az ?_
 subst hout_
 have hm := P; simp only [Sum.elim_inl] at hm
 refine N_then (G_seq (G_region (wR 1 [(3, .slice h f.length g), (68, pB c 1)] T (wV (.slice j b.Stack.length i) T (eL false 1 1 (ab.blk 0 rfl)) (wR 5 [(2, .bool ((b.Stack.length : Int) == (f.length : Int)))] T (W_nil (N_then (G_ret ?_))))))))
 obtain rfl := Option.some.inj hm
 exact N_ret [.bool ((b.Stack.length : Int) == (f.length : Int))] (rC RVs_nil) (⟨rfl, ab.pk []⟩)
theorem c_s_l21Queue (w : World) (c : List Route) (b : Option Addr) (d : Nat) (n : rdS encRoute w c b d) (j : Queue) (o : Option Addr) (t : Nat) (U : rdS encSlot w j.Slots o t) (q : Option Addr) (u : Nat) (V : rdS encWaiter w j.Waiting q u) (f : Int) {r : Bool} (hm : M.s_l21Queue c j f = some r) :
  Calls Tryz.prog 105 #[.slice b c.length d, .agg #[.slice o j.Slots.length t, .slice q j.Waiting.length u], iv f] w fun e w' => e = .returned (.bool r) ∧ Mem [] w w' [] := by
 unfold M.s_l21Queue at hm
 refine cE Tryz.func105 ?_
 have M0 := Mem.refl [] w
 refine G_seq (G_region (wN (.cells ⟨[.slice o j.Slots.length t, .slice q j.Waiting.length u]⟩ 85 (0, 0)) M0 ?_))
 intro g ae ah
 refine wR 1 [(0, .slice b c.length d), (2, iv f), (4, pB g 0)] ae (W_nil (N_then (G_seq (G_seq (G_region (wR 1 [(0, .slice b c.length d), (2, iv f), (4, pB g 0), (7, iv 0)] ae (W_nil (N_then ?_))))))))
 obtain ⟨bc, a8, W⟩ := gx_bind hm
 refine G_meet (fun a w' => ∃ (ac : Unit), bc = .inl ac ∧ Mem [] w w' [[(g, .cells ⟨[.slice o j.Slots.length t, .slice q j.Waiting.length u]⟩ 85 (0, 0))]] ∧ Sat Tryz.f105.ntmps [(0, .slice b c.length d), (2, iv f), (4, pB g 0)] a) ?_ ?_
 ·refine G_block (G_while (σ := Int) (ρ := (Unit) ⊕ (Bool)) (fun i a w' => Mem [] w w' [[(g, .cells ⟨[.slice o j.Slots.length t, .slice q j.Waiting.length u]⟩ 85 (0, 0))]] ∧ Sat Tryz.f105.ntmps [(0, .slice b c.length d), (2, iv f), (4, pB g 0), (7, iv i)] a) a8 (fun a ha => ⟨ah.pk [0], ha.s⟩) ?_)
  clear hm
  intro i bw hm Y bg x ⟨A, aw⟩
  refine G_use aw (G_seq (G_seq (G_region (wR 2 [(0, .slice b c.length d), (2, iv f), (4, pB g 0), (7, iv i), (11, iv i), (12, pB g 0)] x (wV (.slice o j.Slots.length t) x (eL false 1 0 (A.blk 0 rfl)) (wR 2 [(0, .slice b c.length d), (2, iv f), (4, pB g 0), (7, iv i), (15, .bool (decide (i < (j.Slots.length : Int))))] x (W_nil (N_then ?_))))))))
  rcases gx_bif hm with ⟨F, hm⟩ | ⟨F, hm⟩
  ·refine gT F (G_skip (N_then (G_seq (G_block (G_seq (G_region (wR 1 [(0, .slice b c.length d), (2, iv f), (4, pB g 0), (7, iv i), (18, pB g 0)] x (wV (.slice o j.Slots.length t) x (eL false 1 0 (A.blk 0 rfl)) (wR 1 [(0, .slice b c.length d), (2, iv f), (4, pB g 0), (7, iv i), (19, .slice o j.Slots.length t), (20, iv i)] x ?_)))))))))
   obtain ⟨h, aa, hm⟩ := gx_bind hm
   refine wV (elemP o (i.toNat * 3)) x (eI (U.mem0 A) rfl aa) (wV (.agg #[iv h.State, iv h.Irq, iv h.Priority]) x (eE true 3 0 (i.toNat * 3) (U.mem0 A) aa) (wN (.cells ⟨[iv 0, iv 0, iv 0]⟩ 117 (0, 0)) A ?_))
   intro m bm ai
   refine wS true 3 0 (.agg #[iv h.State, iv h.Irq, iv h.Priority]) 1 [iv h.State, iv h.Irq, iv h.Priority] ai rfl ?_
   intro bn aj
   refine W_nil (N_then (G_seq ?_))
   obtain ⟨ba, a6, a4⟩ := gx_bind hm
   refine G_meet (fun a w' => Mem [] w w' [[(g, .cells ⟨[.slice o j.Slots.length t, .slice q j.Waiting.length u]⟩ 85 (0, 0))]] ∧ Sat Tryz.f105.ntmps [(0, .slice b c.length d), (2, iv f), (4, pB g 0), (7, iv i), (51, .bool ba)] a) ?_ ?_
   ·have hm := a6
    refine G_quiet (by kernel_rfl) (by kernel_rfl) aj (zR [pB m 0] [(0, .slice b c.length d), (2, iv f), (4, pB g 0), (7, iv i), (8, pB m 0), (23, pB m 0)] (zV (iv h.State) (fun w_ M_ => (eL false 1 0 (M_.blk 1 rfl))) (zR [.bool (h.State == 3), .bool (h.State == 3)] [(0, .slice b c.length d), (2, iv f), (4, pB g 0), (7, iv i), (8, pB m 0), (26, .bool (h.State == 3))] ?_)))
    rcases gx_bif hm with ⟨G, hm⟩ | ⟨G, hm⟩
    ·refine zK 26 true G (zR [undef, undef, undef, undef, undef, undef, undef, undef, undef, undef, undef, undef, undef, undef, undef, undef, undef, undef, undef, undef, undef, undef, undef, undef, .bool true] [(0, .slice b c.length d), (2, iv f), (4, pB g 0), (7, iv i), (51, .bool true)] (Z_end fun bo ak => ?_))
     obtain rfl := Option.some.inj hm
     exact N_meet fun a ha => ⟨ak.pk [0], ha.s⟩
    refine zK 26 false G (zR [pB m 0] [(0, .slice b c.length d), (2, iv f), (4, pB g 0), (7, iv i), (8, pB m 0), (26, .bool false), (27, pB m 0)] (zV (iv h.State) (fun w_ M_ => (eL false 1 0 (M_.blk 1 rfl))) (zR [.bool (h.State != 0), .bool (h.State != 0)] [(0, .slice b c.length d), (2, iv f), (4, pB g 0), (7, iv i), (8, pB m 0), (26, .bool false), (30, .bool (h.State != 0))] ?_)))
    rcases gx_bif hm with ⟨H, hm⟩ | ⟨H, hm⟩
    ·refine zK 30 true H (zR [.slice b c.length d, pB m 1] [(0, .slice b c.length d), (2, iv f), (4, pB g 0), (7, iv i), (8, pB m 0), (26, .bool false), (30, .bool true), (31, .slice b c.length d), (32, pB m 1)] (zV (iv h.Irq) (fun w_ M_ => (eL false 1 1 (M_.blk 1 rfl))) ?_))
     obtain ⟨D, O, hm⟩ := gx_bind hm
     refine zV (elemP b (h.Irq.toNat * 2)) (fun w_ M_ => (eI (n.mem0 M_) rfl O)) (zV (elemP b (h.Irq.toNat * 2 + 1)) (fun w_ M_ => (eF 1 (h.Irq.toNat * 2) 1 (n.mem0 M_) O)) (zV (iv D.Target) (fun w_ M_ => (eE false 1 1 (h.Irq.toNat * 2 + 1) (n.mem0 M_) O)) (zR [iv f, .bool (D.Target != f), .bool (D.Target != f)] [(0, .slice b c.length d), (2, iv f), (4, pB g 0), (7, iv i), (8, pB m 0), (26, .bool false), (30, .bool true), (39, .bool (D.Target != f))] ?_)))
     rcases gx_bif hm with ⟨I, hm⟩ | ⟨I, hm⟩
     ·refine zK 39 true I (zR [undef, undef, undef, undef, undef, undef, undef, undef, undef, .bool true, .bool true, .bool true] [(0, .slice b c.length d), (2, iv f), (4, pB g 0), (7, iv i), (51, .bool true)] (Z_end fun bp al => ?_))
      obtain rfl := Option.some.inj hm
      exact N_meet fun a ha => ⟨al.pk [0], ha.s⟩
     refine zK 39 false I (zR [.slice b c.length d, pB m 1] [(0, .slice b c.length d), (2, iv f), (4, pB g 0), (7, iv i), (8, pB m 0), (26, .bool false), (30, .bool true), (39, .bool false), (40, .slice b c.length d), (41, pB m 1)] (zV (iv h.Irq) (fun w_ M_ => (eL false 1 1 (M_.blk 1 rfl))) ?_))
     obtain ⟨z, P, hm⟩ := gx_bind hm
     refine zV (elemP b (h.Irq.toNat * 2)) (fun w_ M_ => (eI (n.mem0 M_) rfl P)) (zV (elemP b (h.Irq.toNat * 2 + 0)) (fun w_ M_ => (eF 0 (h.Irq.toNat * 2) 0 (n.mem0 M_) P)) (zV (iv z.Priority) (fun w_ M_ => (eE false 1 0 (h.Irq.toNat * 2 + 0) (n.mem0 M_) P)) (zR [pB m 2] [(0, .slice b c.length d), (2, iv f), (4, pB g 0), (7, iv i), (26, .bool false), (30, .bool true), (39, .bool false), (45, iv z.Priority), (46, pB m 2)] (zV (iv h.Priority) (fun w_ M_ => (eL false 1 2 (M_.blk 1 rfl))) (zR [.bool (z.Priority != h.Priority), .bool (z.Priority != h.Priority), .bool (z.Priority != h.Priority), .bool (z.Priority != h.Priority)] [(0, .slice b c.length d), (2, iv f), (4, pB g 0), (7, iv i), (51, .bool (z.Priority != h.Priority))] (Z_end fun bq am => ?_))))))
     obtain rfl := Option.some.inj hm
     exact N_meet fun a ha => ⟨am.pk [0], ha.s⟩
    refine zK 30 false H (zR [undef, undef, undef, undef, undef, undef, undef, undef, undef, undef, undef, undef, undef, undef, undef, undef, undef, undef, undef, .bool false, .bool false] [(0, .slice b c.length d), (2, iv f), (4, pB g 0), (7, iv i), (51, .bool false)] (Z_end fun br an => ?_))
    obtain rfl := Option.some.inj hm
    exact N_meet fun a ha => ⟨an.pk [0], ha.s⟩
   intro bh af ⟨S, ax⟩
   refine N_use ax ?_
   have hm := a4
   refine N_then ?_
   rcases gx_bif hm with ⟨J, hm⟩ | ⟨J, hm⟩
   ·refine gT J (G_seq (G_region (wR 1 [(6, .bool false)] af (W_nil (N_then (G_ret (N_block_ret (N_then_ret (N_then_ret ?_)))))))))
    obtain rfl := Option.some.inj hm
    obtain rfl := Y _ rfl
    have hm := W; simp only [Sum.elim_inr] at hm
    refine N_block_ret (N_meet_ret (N_then_ret ?_))
    obtain rfl := Option.some.inj hm
    exact N_ret [.bool false] (rC RVs_nil) (⟨rfl, S.pk []⟩)
   refine gF J (G_skip (N_block (N_then (G_region (wR 3 [(0, .slice b c.length d), (2, iv f), (4, pB g 0), (7, iv (w64 (i + 1)))] af (W_nil ?_))))))
   obtain rfl := Option.some.inj hm
   exact N_loop fun a ha => ⟨_, rfl, S.pk [0], ha.s⟩
  refine gF F (G_exit (N_then_exit (N_then_exit (N_block_eq ?_))))
  obtain rfl := Option.some.inj hm
  obtain rfl := Y _ rfl
  exact N_meet fun a ha => ⟨_, rfl, A.pk [0], ha.s⟩
 intro bi be ⟨ac, hout_, ao, ay⟩
 refine N_use ay ?_
 subst hout_
 have hm := W; simp only [Sum.elim_inl] at hm
 refine N_then (G_seq (G_seq (G_region (wR 1 [(0, .slice b c.length d), (2, iv f), (4, pB g 0), (9, iv 0)] be (W_nil (N_then ?_))))))
 obtain ⟨bd, a9, X⟩ := gx_bind hm
 refine G_meet (fun a w' => ∃ (ad : Unit), bd = .inl ad ∧ Mem [] w w' [] ∧ Sat Tryz.f105.ntmps [] a) ?_ ?_
 ·refine G_block (G_while (σ := Int) (ρ := (Unit) ⊕ (Bool)) (fun l a w' => Mem [] w w' [[(g, .cells ⟨[.slice o j.Slots.length t, .slice q j.Waiting.length u]⟩ 85 (0, 0))]] ∧ Sat Tryz.f105.ntmps [(0, .slice b c.length d), (2, iv f), (4, pB g 0), (9, iv l)] a) a9 (fun a ha => ⟨ao.pk [0], ha.s⟩) ?_)
  clear hm
  intro l bx hm Z bj y ⟨B, az⟩
  refine G_use az (G_seq (G_seq (G_region (wR 2 [(0, .slice b c.length d), (2, iv f), (4, pB g 0), (9, iv l), (52, iv l), (53, pB g 1)] y (wV (.slice q j.Waiting.length u) y (eL false 1 1 (B.blk 0 rfl)) (wR 2 [(0, .slice b c.length d), (2, iv f), (4, pB g 0), (9, iv l), (56, .bool (decide (l < (j.Waiting.length : Int))))] y (W_nil (N_then ?_))))))))
  rcases gx_bif hm with ⟨K, hm⟩ | ⟨K, hm⟩
  ·refine gT K (G_skip (N_then (G_seq (G_block (G_seq (G_region (wR 1 [(0, .slice b c.length d), (2, iv f), (4, pB g 0), (9, iv l), (59, pB g 1)] y (wV (.slice q j.Waiting.length u) y (eL false 1 1 (B.blk 0 rfl)) (wR 1 [(0, .slice b c.length d), (2, iv f), (4, pB g 0), (9, iv l), (60, .slice q j.Waiting.length u), (61, iv l)] y ?_)))))))))
   obtain ⟨k, ab, hm⟩ := gx_bind hm
   refine wV (elemP q (l.toNat * 2)) y (eI (V.mem0 B) rfl ab) (wV (.agg #[iv k.Irq, iv k.Priority]) y (eE true 2 0 (l.toNat * 2) (V.mem0 B) ab) (wN (.cells ⟨[iv 0, iv 0]⟩ 142 (0, 0)) B ?_))
   intro v bs ap
   refine wS true 2 0 (.agg #[iv k.Irq, iv k.Priority]) 1 [iv k.Irq, iv k.Priority] ap rfl ?_
   intro bt aq
   refine W_nil (N_then (G_seq ?_))
   obtain ⟨bb, a7, a5⟩ := gx_bind hm
   refine G_meet (fun a w' => Mem [] w w' [[(g, .cells ⟨[.slice o j.Slots.length t, .slice q j.Waiting.length u]⟩ 85 (0, 0))]] ∧ Sat Tryz.f105.ntmps [(0, .slice b c.length d), (2, iv f), (4, pB g 0), (9, iv l), (82, .bool bb)] a) ?_ ?_
   ·have hm := a7
    refine G_quiet (by kernel_rfl) (by kernel_rfl) aq (zR [.slice b c.length d, pB v 0] [(0, .slice b c.length d), (2, iv f), (4, pB g 0), (9, iv l), (10, pB v 0), (64, .slice b c.length d), (65, pB v 0)] (zV (iv k.Irq) (fun w_ M_ => (eL false 1 0 (M_.blk 1 rfl))) ?_))
    obtain ⟨E, Q, hm⟩ := gx_bind hm
    refine zV (elemP b (k.Irq.toNat * 2)) (fun w_ M_ => (eI (n.mem0 M_) rfl Q)) (zV (elemP b (k.Irq.toNat * 2 + 1)) (fun w_ M_ => (eF 1 (k.Irq.toNat * 2) 1 (n.mem0 M_) Q)) (zV (iv E.Target) (fun w_ M_ => (eE false 1 1 (k.Irq.toNat * 2 + 1) (n.mem0 M_) Q)) (zR [iv f, .bool (E.Target != f), .bool (E.Target != f)] [(0, .slice b c.length d), (2, iv f), (4, pB g 0), (9, iv l), (10, pB v 0), (72, .bool (E.Target != f))] ?_)))
    rcases gx_bif hm with ⟨L, hm⟩ | ⟨L, hm⟩
    ·refine zK 72 true L (zR [undef, undef, undef, undef, undef, undef, undef, undef, undef, .bool true] [(0, .slice b c.length d), (2, iv f), (4, pB g 0), (9, iv l), (82, .bool true)] (Z_end fun bu ar => ?_))
     obtain rfl := Option.some.inj hm
     exact N_meet fun a ha => ⟨ar.pk [0], ha.s⟩
    refine zK 72 false L (zR [.slice b c.length d, pB v 0] [(0, .slice b c.length d), (2, iv f), (4, pB g 0), (9, iv l), (10, pB v 0), (72, .bool false), (73, .slice b c.length d), (74, pB v 0)] (zV (iv k.Irq) (fun w_ M_ => (eL false 1 0 (M_.blk 1 rfl))) ?_))
    obtain ⟨C, R, hm⟩ := gx_bind hm
    refine zV (elemP b (k.Irq.toNat * 2)) (fun w_ M_ => (eI (n.mem0 M_) rfl R)) (zV (elemP b (k.Irq.toNat * 2 + 0)) (fun w_ M_ => (eF 0 (k.Irq.toNat * 2) 0 (n.mem0 M_) R)) (zV (iv C.Priority) (fun w_ M_ => (eE false 1 0 (k.Irq.toNat * 2 + 0) (n.mem0 M_) R)) (zR [pB v 1] [(0, .slice b c.length d), (2, iv f), (4, pB g 0), (9, iv l), (72, .bool false), (78, iv C.Priority), (79, pB v 1)] (zV (iv k.Priority) (fun w_ M_ => (eL false 1 1 (M_.blk 1 rfl))) (zR [.bool (C.Priority != k.Priority), .bool (C.Priority != k.Priority)] [(0, .slice b c.length d), (2, iv f), (4, pB g 0), (9, iv l), (82, .bool (C.Priority != k.Priority))] (Z_end fun bv au => ?_))))))
    obtain rfl := Option.some.inj hm
    exact N_meet fun a ha => ⟨au.pk [0], ha.s⟩
   intro bk ag ⟨T, a0⟩
   refine N_use a0 ?_
   have hm := a5
   refine N_then ?_
   rcases gx_bif hm with ⟨N, hm⟩ | ⟨N, hm⟩
   ·refine gT N (G_seq (G_region (wR 1 [(6, .bool false)] ag (W_nil (N_then (G_ret (N_block_ret (N_then_ret (N_then_ret ?_)))))))))
    obtain rfl := Option.some.inj hm
    obtain rfl := Z _ rfl
    have hm := X; simp only [Sum.elim_inr] at hm
    refine N_block_ret (N_meet_ret (N_then_ret ?_))
    obtain rfl := Option.some.inj hm
    exact N_ret [.bool false] (rC RVs_nil) (⟨rfl, T.pk []⟩)
   refine gF N (G_skip (N_block (N_then (G_region (wR 3 [(0, .slice b c.length d), (2, iv f), (4, pB g 0), (9, iv (w64 (l + 1)))] ag (W_nil ?_))))))
   obtain rfl := Option.some.inj hm
   exact N_loop fun a ha => ⟨_, rfl, T.pk [0], ha.s⟩
  refine gF K (G_exit (N_then_exit (N_then_exit (N_block_eq ?_))))
  obtain rfl := Option.some.inj hm
  obtain rfl := Z _ rfl
  exact N_meet fun a ha => ⟨_, rfl, B.pk [], ha.s⟩
 intro bl bf ⟨ad, hout_, av, a3⟩
 refine N_use a3 ?_
 subst hout_
 have hm := X; simp only [Sum.elim_inl] at hm
 refine N_then (G_seq (G_region (wR 1 [(6, .bool true)] bf (W_nil (N_then (G_ret ?_))))))
 obtain rfl := Option.some.inj hm
 exact N_ret [.bool true] (rC RVs_nil) (⟨rfl, av.pk []⟩)
theorem c_s_l21Good (w : World) (b : Machine) (i : Option Addr) (h : Nat) (R : rdS encRoute w b.Routes i h) (t : Option Addr) (o : Nat) (a3 : rdS Gx.encB w b.Enabled t o) (u : Option Addr) (q : Nat) (a4 : rdS Gx.encB w b.Raised u q) (j : Option Addr) (l : Nat) (ab : rdD deepInterface w b.Cpus j l) {r : Bool} (hm : M.s_l21Good b = some r) :
  Calls Tryz.prog 54 #[.agg #[.slice i b.Routes.length h, .slice t b.Enabled.length o, .slice u b.Raised.length q, .slice j b.Cpus.length l]] w fun e w' => e = .returned (.bool r) ∧ Mem [] w w' [] := by
 unfold M.s_l21Good at hm
 refine cE Tryz.func54 ?_
 have M0 := Mem.refl [] w
 refine G_seq (G_region (wN (.cells ⟨[.slice i b.Routes.length h, .slice t b.Enabled.length o, .slice u b.Raised.length q, .slice j b.Cpus.length l]⟩ 32 (0, 0)) M0 ?_))
 intro c v C
 refine wR 1 [(1, pB c 0)] v (W_nil (N_then (G_seq (G_seq ?_))))
 obtain ⟨aq, ai, ag⟩ := gx_bind hm
 refine G_meet (fun a w' => Mem [] w w' [[(c, .cells ⟨[.slice i b.Routes.length h, .slice t b.Enabled.length o, .slice u b.Raised.length q, .slice j b.Cpus.length l]⟩ 32 (0, 0))]] ∧ Sat Tryz.f54.ntmps [(1, pB c 0), (22, .bool aq)] a) ?_ ?_
 ·have hm := ai
  refine G_region (wR 1 [(1, pB c 0), (4, pB c 0)] v (wV (.slice i b.Routes.length h) v (eL false 1 0 (C.blk 0 rfl)) (wR 1 [(1, pB c 0), (5, .slice i b.Routes.length h), (6, pB c 3)] v (wV (.slice j b.Cpus.length l) v (eL false 1 3 (C.blk 0 rfl)) (wR 1 [(1, pB c 0), (5, .slice i b.Routes.length h), (8, iv (b.Cpus.length : Int))] v ?_)))))
  obtain ⟨av, ak, hm⟩ := gx_bind hm
  refine wC 99 #[.slice i b.Routes.length h, iv (b.Cpus.length : Int)] ((c_s_l21Routes v b.Routes i h (R.mem0 C) (b.Cpus.length : Int) ak).mono ?_)
  rintro e_ n ⟨rfl, X⟩
  have x := C.call0 X
  refine ⟨_, rfl, ?_⟩
  refine wR 2 [(1, pB c 0), (11, .bool (!av))] n ?_
  rcases gx_bif hm with ⟨H, hm⟩ | ⟨H, hm⟩
  ·refine wK 11 true H (wR 11 [(1, pB c 0), (22, .bool true)] n (W_nil ?_))
   obtain rfl := Option.some.inj hm
   exact N_meet fun a ha => ⟨x.pk [0], ha.s⟩
  refine wK 11 false H (wR 1 [(1, pB c 0), (11, .bool false), (12, pB c 1)] n (wV (.slice t b.Enabled.length o) n (eL false 1 1 (x.blk 0 rfl)) (wR 4 [(1, pB c 0), (17, .bool ((b.Enabled.length : Int) != 8))] n ?_)))
  rcases gx_bif hm with ⟨I, hm⟩ | ⟨I, hm⟩
  ·refine wK 17 true I (wR 5 [(1, pB c 0), (22, .bool true)] n (W_nil ?_))
   obtain rfl := Option.some.inj hm
   exact N_meet fun a ha => ⟨x.pk [0], ha.s⟩
  refine wK 17 false I (wR 1 [(1, pB c 0), (17, .bool false), (18, pB c 2)] n (wV (.slice u b.Raised.length q) n (eL false 1 2 (x.blk 0 rfl)) (wR 3 [(1, pB c 0), (22, .bool ((b.Raised.length : Int) != 8))] n (W_nil ?_))))
  obtain rfl := Option.some.inj hm
  exact N_meet fun a ha => ⟨x.pk [0], ha.s⟩
 intro ax V ⟨P, ac⟩
 refine N_use ac ?_
 have hm := ag
 refine N_then ?_
 rcases gx_bif hm with ⟨J, hm⟩ | ⟨J, hm⟩
 ·refine gT J (G_seq (G_region (wR 1 [(2, .bool false)] V (W_nil (N_then (G_ret (N_then_ret ?_)))))))
  obtain rfl := Option.some.inj hm
  exact N_ret [.bool false] (rC RVs_nil) (⟨rfl, P.pk []⟩)
 refine gF J (G_skip (N_then (G_seq (G_seq (G_region (wR 1 [(1, pB c 0), (3, iv 0)] V (W_nil (N_then ?_))))))))
 obtain ⟨au, an, S⟩ := gx_bind hm
 refine G_meet (fun a w' => ∃ (U : Unit), au = .inl U ∧ Mem [] w w' [] ∧ Sat Tryz.f54.ntmps [] a) ?_ ?_
 ·refine G_block (G_while (σ := Int) (ρ := (Unit) ⊕ (Bool)) (fun d a w' => Mem [] w w' [[(c, .cells ⟨[.slice i b.Routes.length h, .slice t b.Enabled.length o, .slice u b.Raised.length q, .slice j b.Cpus.length l]⟩ 32 (0, 0))]] ∧ Sat Tryz.f54.ntmps [(1, pB c 0), (3, iv d)] a) an (fun a ha => ⟨P.pk [0], ha.s⟩) ?_)
  clear hm
  intro d a7 hm T ay O ⟨G, ad⟩
  refine G_use ad (G_seq (G_seq (G_region (wR 2 [(1, pB c 0), (3, iv d), (23, iv d), (24, pB c 3)] O (wV (.slice j b.Cpus.length l) O (eL false 1 3 (G.blk 0 rfl)) (wR 2 [(1, pB c 0), (3, iv d), (27, .bool (decide (d < (b.Cpus.length : Int))))] O (W_nil (N_then ?_))))))))
  rcases gx_bif hm with ⟨K, hm⟩ | ⟨K, hm⟩
  ·refine gT K (G_skip (N_then (G_seq (G_block (G_seq ?_)))))
   obtain ⟨ar, aj, ah⟩ := gx_bind hm
   refine G_meet (fun a w' => Mem [] w w' [[(c, .cells ⟨[.slice i b.Routes.length h, .slice t b.Enabled.length o, .slice u b.Raised.length q, .slice j b.Cpus.length l]⟩ 32 (0, 0))]] ∧ Sat Tryz.f54.ntmps [(1, pB c 0), (3, iv d), (49, .bool ar)] a) ?_ ?_
   ·have hm := aj
    refine G_quiet (by kernel_rfl) (by kernel_rfl) G (zR [pB c 3] [(1, pB c 0), (3, iv d), (30, pB c 3)] (zV (.slice j b.Cpus.length l) (fun w_ M_ => (eL false 1 3 (M_.blk 0 rfl))) (zR [iv d] [(1, pB c 0), (3, iv d), (31, .slice j b.Cpus.length l), (32, iv d)] ?_)))
    obtain ⟨k, ao, hm⟩ := gx_bind hm
    obtain ⟨a8, D, B, A⟩ := id ab
    obtain ⟨f, y⟩ := gxIdx_fst D ao
    refine zV (elemP j (d.toNat * 4)) (fun w_ M_ => (eI (B.mem0 M_) (len_fst D) y)) (zV (.agg #[iv k.Mask, .slice ((f 0).1) k.Stack.length ((f 0).2), .slice ((f 1).1) k.Queue.Slots.length ((f 1).2), .slice ((f 2).1) k.Queue.Waiting.length ((f 2).2)]) (fun w_ M_ => (eE true 4 0 (d.toNat * 4) (B.mem0 M_) y)) ?_)
    obtain ⟨E, al, hm⟩ := gx_bind hm
    refine Z_call 104 #[.agg #[iv k.Mask, .slice ((f 0).1) k.Stack.length ((f 0).2), .slice ((f 1).1) k.Queue.Slots.length ((f 1).2), .slice ((f 2).1) k.Queue.Waiting.length ((f 2).2)]] (.bool E) (by kernel_rfl) (fun w_ => by kernel_rfl) (fun w_ M_ => (c_s_l10Good w_ (⟨k.Mask, k.Stack, (⟨k.Queue.Slots, k.Queue.Waiting⟩ : Queue)⟩ : Interface) ((f 0).1) ((f 0).2) ((A.mem0 M_).at_ y 0 ⟨Int, Gx.encI, k.Stack, (f 0).1, (f 0).2⟩ (by kernel_rfl)) ((f 1).1) ((f 1).2) ((A.mem0 M_).at_ y 1 ⟨Slot, encSlot, k.Queue.Slots, (f 1).1, (f 1).2⟩ (by kernel_rfl)) ((f 2).1) ((f 2).2) ((A.mem0 M_).at_ y 2 ⟨Waiter, encWaiter, k.Queue.Waiting, (f 2).1, (f 2).2⟩ (by kernel_rfl)) al).mono fun e w2_ h_ => ⟨h_.1, M_.call0 h_.2⟩) (zR [.bool (!E), .bool (!E)] [(1, pB c 0), (3, iv d), (37, .bool (!E))] ?_)
    rcases gx_bif hm with ⟨L, hm⟩ | ⟨L, hm⟩
    ·refine zK 37 true L (zR [undef, undef, undef, undef, undef, undef, undef, undef, undef, undef, undef, .bool true] [(1, pB c 0), (3, iv d), (49, .bool true)] (Z_end fun a5 Y => ?_))
     obtain rfl := Option.some.inj hm
     exact N_meet fun a ha => ⟨Y.pk [0], ha.s⟩
    refine zK 37 false L (zR [pB c 0] [(1, pB c 0), (3, iv d), (37, .bool false), (38, pB c 0)] (zV (.slice i b.Routes.length h) (fun w_ M_ => (eL false 1 0 (M_.blk 0 rfl))) (zR [pB c 3] [(1, pB c 0), (3, iv d), (37, .bool false), (39, .slice i b.Routes.length h), (40, pB c 3)] (zV (.slice j b.Cpus.length l) (fun w_ M_ => (eL false 1 3 (M_.blk 0 rfl))) (zR [iv d] [(1, pB c 0), (3, iv d), (37, .bool false), (39, .slice i b.Routes.length h), (41, .slice j b.Cpus.length l), (42, iv d)] ?_)))))
    obtain ⟨m, ap, hm⟩ := gx_bind hm
    obtain ⟨g, z⟩ := gxIdx_fst D ap
    refine zV (elemP j (d.toNat * 4)) (fun w_ M_ => (eI (B.mem0 M_) (len_fst D) z)) (zV (elemP j (d.toNat * 4 + 2)) (fun w_ M_ => (eF 2 (d.toNat * 4) 2 (B.mem0 M_) z)) (zV (.agg #[.slice ((g 1).1) m.Queue.Slots.length ((g 1).2), .slice ((g 2).1) m.Queue.Waiting.length ((g 2).2)]) (fun w_ M_ => (eE true 2 2 (d.toNat * 4 + 2) (B.mem0 M_) z)) (zR [iv d] [(1, pB c 0), (3, iv d), (37, .bool false), (39, .slice i b.Routes.length h), (45, .agg #[.slice ((g 1).1) m.Queue.Slots.length ((g 1).2), .slice ((g 2).1) m.Queue.Waiting.length ((g 2).2)]), (46, iv d)] ?_)))
    obtain ⟨F, am, hm⟩ := gx_bind hm
    refine Z_call 105 #[.slice i b.Routes.length h, .agg #[.slice ((g 1).1) m.Queue.Slots.length ((g 1).2), .slice ((g 2).1) m.Queue.Waiting.length ((g 2).2)], iv d] (.bool F) (by kernel_rfl) (fun w_ => by kernel_rfl) (fun w_ M_ => (c_s_l21Queue w_ b.Routes i h (R.mem0 M_) (⟨m.Queue.Slots, m.Queue.Waiting⟩ : Queue) ((g 1).1) ((g 1).2) ((A.mem0 M_).at_ z 1 ⟨Slot, encSlot, m.Queue.Slots, (g 1).1, (g 1).2⟩ (by kernel_rfl)) ((g 2).1) ((g 2).2) ((A.mem0 M_).at_ z 2 ⟨Waiter, encWaiter, m.Queue.Waiting, (g 2).1, (g 2).2⟩ (by kernel_rfl)) d am).mono fun e w2_ h_ => ⟨h_.1, M_.call0 h_.2⟩) (zR [.bool (!F), .bool (!F)] [(1, pB c 0), (3, iv d), (49, .bool (!F))] (Z_end fun a6 Z => ?_))
    obtain rfl := Option.some.inj hm
    exact N_meet fun a ha => ⟨Z.pk [0], ha.s⟩
   intro az W ⟨Q, ae⟩
   refine N_use ae ?_
   have hm := ah
   refine N_then ?_
   rcases gx_bif hm with ⟨N, hm⟩ | ⟨N, hm⟩
   ·refine gT N (G_seq (G_region (wR 1 [(2, .bool false)] W (W_nil (N_then (G_ret (N_block_ret (N_then_ret (N_then_ret ?_)))))))))
    obtain rfl := Option.some.inj hm
    obtain rfl := T _ rfl
    have hm := S; simp only [Sum.elim_inr] at hm
    refine N_block_ret (N_meet_ret (N_then_ret ?_))
    obtain rfl := Option.some.inj hm
    exact N_ret [.bool false] (rC RVs_nil) (⟨rfl, Q.pk []⟩)
   refine gF N (G_skip (N_block (N_then (G_region (wR 3 [(1, pB c 0), (3, iv (w64 (d + 1)))] W (W_nil ?_))))))
   obtain rfl := Option.some.inj hm
   exact N_loop fun a ha => ⟨_, rfl, Q.pk [0], ha.s⟩
  refine gF K (G_exit (N_then_exit (N_then_exit (N_block_eq ?_))))
  obtain rfl := Option.some.inj hm
  obtain rfl := T _ rfl
  exact N_meet fun a ha => ⟨_, rfl, G.pk [], ha.s⟩
 intro a0 aw ⟨U, hout_, aa, af⟩
 refine N_use af ?_
 subst hout_
 have hm := S; simp only [Sum.elim_inl] at hm
 refine N_then (G_seq (G_region (wR 1 [(2, .bool true)] aw (W_nil (N_then (G_ret ?_))))))
 obtain rfl := Option.some.inj hm
 exact N_ret [.bool true] (rC RVs_nil) (⟨rfl, aa.pk []⟩)
theorem c_s_IsMachine (w : World) (a : Machine) (h : Option Addr) (c : Nat) (t : rdS encRoute w a.Routes h c) (i : Option Addr) (d : Nat) (u : rdS Gx.encB w a.Enabled i d) (j : Option Addr) (f : Nat) (v : rdS Gx.encB w a.Raised j f) (k : Option Addr) (g : Nat) (x : rdD deepInterface w a.Cpus k g) {r : Bool} (hm : M.s_IsMachine a = some r) :
  Calls Tryz.prog 13 #[.agg #[.slice h a.Routes.length c, .slice i a.Enabled.length d, .slice j a.Raised.length f, .slice k a.Cpus.length g]] w fun e w' => e = .returned (.bool r) ∧ Mem [] w w' [] := by
 unfold M.s_IsMachine at hm
 refine cE Tryz.func13 ?_
 have M0 := Mem.refl [] w
 refine G_seq (G_region (wN (.cells ⟨[.slice h a.Routes.length c, .slice i a.Enabled.length d, .slice j a.Raised.length f, .slice k a.Cpus.length g]⟩ 32 (0, 0)) M0 ?_))
 intro q l b
 refine wR 1 [(1, pB q 0)] l (W_nil (N_then (G_seq (G_region (wV (.agg #[.slice h a.Routes.length c, .slice i a.Enabled.length d, .slice j a.Raised.length f, .slice k a.Cpus.length g]) l (eL true 4 0 (b.blk 0 rfl)) ?_)))))
 obtain ⟨m, y, hm⟩ := gx_bind hm
 refine wC 54 #[.agg #[.slice h a.Routes.length c, .slice i a.Enabled.length d, .slice j a.Raised.length f, .slice k a.Cpus.length g]] ((c_s_l21Good l a h c (t.mem0 b) i d (u.mem0 b) j f (v.mem0 b) k g (x.mem0 b) y).mono ?_)
 rintro e_ z ⟨rfl, n⟩
 have o := b.call0 n
 refine ⟨_, rfl, ?_⟩
 refine wR 1 [(2, .bool m)] z (W_nil (N_then (G_ret ?_)))
 obtain rfl := Option.some.inj hm
 exact N_ret [.bool m] (rC RVs_nil) (⟨rfl, o.pk []⟩)
theorem c_i_inside (w : World) (b : Int) (d : Int) (c : Int) {r : Bool} (hm : M.i_inside b d c = some r) :
  Calls Tryz.prog 108 #[iv b, iv d, iv c] w fun e w' => e = .returned (.bool r) ∧ Mem [] w w' [] := by
 unfold M.i_inside at hm
 refine cE Tryz.func108 ?_
 have M0 := Mem.refl [] w
 refine G_seq (G_region (wR 1 [(0, iv b), (1, iv d), (2, iv c)] w (W_nil (N_then (G_seq ?_)))))
 obtain ⟨g, k, j⟩ := gx_bind hm
 refine G_meet (fun a w' => Mem [] w w' [] ∧ Sat Tryz.f108.ntmps [(6, .bool g)] a) ?_ ?_
 ·have hm := k
  refine G_region (wR 4 [(0, iv b), (2, iv c), (10, .bool (decide (b ≥ d)))] w ?_)
  rcases gx_bif hm with ⟨f, hm⟩ | ⟨f, hm⟩
  ·refine wK 10 true f (wR 5 [(6, .bool (decide (b ≤ c)))] w (W_nil ?_))
   obtain rfl := Option.some.inj hm
   exact N_meet fun a ha => ⟨M0.pk [], ha.s⟩
  refine wK 10 false f (wR 5 [(6, .bool false)] w (W_nil ?_))
  obtain rfl := Option.some.inj hm
  exact N_meet fun a ha => ⟨M0.pk [], ha.s⟩
 intro l m ⟨h, i⟩
 refine N_use i ?_
 have hm := j
 refine N_then (G_ret ?_)
 obtain rfl := Option.some.inj hm
 exact N_ret [.bool g] (rC RVs_nil) (⟨rfl, h.pk []⟩)
theorem c_i_isPriority (w : World) (a : Int) {r : Bool} (hm : M.i_isPriority a = some r) :
  Calls Tryz.prog 111 #[iv a] w fun e w' => e = .returned (.bool r) ∧ Mem [] w w' [] := by
 unfold M.i_isPriority at hm
 refine cE Tryz.func111 ?_
 have M0 := Mem.refl [] w
 refine G_seq (G_region (wR 1 [(0, iv a)] w (W_nil (N_then (G_seq (G_region (wR 1 [(3, iv a)] w ?_)))))))
 obtain ⟨b, f, hm⟩ := gx_bind hm
 refine wC 108 #[iv a, iv 0, iv 15] ((c_i_inside w a 0 15 f).mono ?_)
 rintro e_ g ⟨rfl, c⟩
 have d := M0.call0 c
 refine ⟨_, rfl, ?_⟩
 refine wR 1 [(2, .bool b)] g (W_nil (N_then (G_ret ?_)))
 obtain rfl := Option.some.inj hm
 exact N_ret [.bool b] (rC RVs_nil) (⟨rfl, d.pk []⟩)
theorem c_i_areRoutes_1 (w : World) (b : Route) (f : Int) (d : Nat) (u : w.heap[d]? = some (.cells ⟨[iv f]⟩ 3 (0, 0))) {r : Bool} (hm : M.i_areRoutes_1 b f = some r) :
  Calls Tryz.prog 110 #[.agg #[iv b.Priority, iv b.Target], pB d 0] w fun e w' => e = .returned (.bool r) ∧ Mem [] w w' [] := by
 unfold M.i_areRoutes_1 at hm
 refine cE Tryz.func110 ?_
 have M0 := Mem.refl [] w
 refine G_seq (G_region (wN (.cells ⟨[iv b.Priority, iv b.Target]⟩ 129 (0, 0)) M0 ?_))
 intro g i k
 refine wR 1 [(1, pB d 0), (2, pB g 0)] i (W_nil (N_then (G_seq ?_)))
 obtain ⟨l, x, v⟩ := gx_bind hm
 refine G_meet (fun a w' => Mem [] w w' [] ∧ Sat Tryz.f110.ntmps [(3, .bool l)] a) ?_ ?_
 ·have hm := x
  refine G_region (wR 1 [(1, pB d 0), (2, pB g 0), (4, pB g 0)] i (wV (iv b.Priority) i (eL false 1 0 (k.blk 0 rfl)) ?_))
  obtain ⟨A, y, hm⟩ := gx_bind hm
  refine wC 111 #[iv b.Priority] ((c_i_isPriority i b.Priority y).mono ?_)
  rintro e_ c ⟨rfl, m⟩
  have h := k.call0 m
  refine ⟨_, rfl, ?_⟩
  refine wR 2 [(1, pB d 0), (2, pB g 0), (8, .bool (!A))] c ?_
  rcases gx_bif hm with ⟨j, hm⟩ | ⟨j, hm⟩
  ·refine wK 8 true j (wR 8 [(3, .bool true)] c (W_nil ?_))
   obtain rfl := Option.some.inj hm
   exact N_meet fun a ha => ⟨h.pk [], ha.s⟩
  refine wK 8 false j (wR 1 [(1, pB d 0), (8, .bool false), (9, pB g 1)] c (wV (iv b.Target) c (eL false 1 1 (h.blk 0 rfl)) (wV (iv f) c (eL false 1 0 (h.ro u)) (wR 1 [(8, .bool false), (10, iv b.Target), (12, iv (w64 (f - 1)))] c ?_))))
  obtain ⟨B, z, hm⟩ := gx_bind hm
  refine wC 108 #[iv b.Target, iv 0, iv (w64 (f - 1))] ((c_i_inside c b.Target 0 (w64 (f - 1)) z).mono ?_)
  rintro e_ C ⟨rfl, n⟩
  have o := h.call0 n
  refine ⟨_, rfl, ?_⟩
  refine wR 3 [(3, .bool (!B))] C (W_nil ?_)
  obtain rfl := Option.some.inj hm
  exact N_meet fun a ha => ⟨o.pk [], ha.s⟩
 intro D E ⟨q, t⟩
 refine N_use t ?_
 have hm := v
 refine N_then (G_ret ?_)
 obtain rfl := Option.some.inj hm
 exact N_ret [.bool l] (rC RVs_nil) (⟨rfl, q.pk []⟩)
theorem c_slices_IndexFunc_159__i_areRoutes_1 (w : World) (b : List Route) (f : Option Addr) (g : Nat) (o : rdS encRoute w b f g) (m : Int) (d : Nat) (C : w.heap[d]? = some (.cells ⟨[iv m]⟩ 3 (0, 0))) {r : Int} (hm : M.slices_IndexFunc_159__i_areRoutes_1 b m = some r) :
  Calls Tryz.prog 159 #[.slice f b.length g, .func (.func 110) #[] #[pB d 0]] w fun e w' => e = .returned (iv r) ∧ Mem [] w w' [] := by
 unfold M.slices_IndexFunc_159__i_areRoutes_1 at hm
 refine cE Tryz.func159 ?_
 have M0 := Mem.refl [] w
 refine G_seq (G_region (wR 1 [(0, .slice f b.length g), (1, .func (.func 110) #[] #[pB d 0])] w (W_nil (N_then (G_seq (G_seq (G_region (wR 3 [(0, .slice f b.length g), (1, .func (.func 110) #[] #[pB d 0]), (7, iv (b.length : Int)), (8, iv 0)] w (W_nil (N_then ?_))))))))))
 obtain ⟨F, E, q⟩ := gx_bind hm
 refine G_meet (fun a w' => ∃ (v : Unit), F = .inl v ∧ Mem [] w w' [] ∧ Sat Tryz.f159.ntmps [] a) ?_ ?_
 ·refine G_block (G_while (σ := Int) (ρ := (Unit) ⊕ (Int)) (fun c a w' => Mem [] w w' [] ∧ Sat Tryz.f159.ntmps [(0, .slice f b.length g), (1, .func (.func 110) #[] #[pB d 0]), (7, iv (b.length : Int)), (8, iv c)] a) E (fun a ha => ⟨M0.pk [], ha.s⟩) ?_)
  clear hm
  intro c K hm t H h ⟨i, A⟩
  refine G_use A (G_seq (G_region (wR 1 [(0, .slice f b.length g), (1, .func (.func 110) #[] #[pB d 0]), (7, iv (b.length : Int)), (8, iv c), (9, .bool (decide (c < (b.length : Int))))] h (W_nil (N_then (G_seq ?_))))))
  rcases gx_bif hm with ⟨k, hm⟩ | ⟨k, hm⟩
  ·refine gT k (G_skip (N_then (G_seq (G_block (G_seq (G_region (wR 2 [(0, .slice f b.length g), (1, .func (.func 110) #[] #[pB d 0]), (5, iv c), (7, iv (b.length : Int)), (8, iv c)] h (W_nil (N_then (G_seq (G_region (wR 3 [(0, .slice f b.length g), (1, .func (.func 110) #[] #[pB d 0]), (5, iv c), (7, iv (b.length : Int)), (8, iv c), (11, .func (.func 110) #[] #[pB d 0]), (12, .slice f b.length g), (13, iv c)] h ?_))))))))))))
   obtain ⟨j, u, hm⟩ := gx_bind hm
   refine wV (elemP f (c.toNat * 2)) h (eI (o.mem0 i) rfl u) (wV (.agg #[iv j.Priority, iv j.Target]) h (eE true 2 0 (c.toNat * 2) (o.mem0 i) u) ?_)
   obtain ⟨J, D, hm⟩ := gx_bind hm
   refine wC 110 #[.agg #[iv j.Priority, iv j.Target], pB d 0] ((c_i_areRoutes_1 h j m d (i.ro C) D).mono ?_)
   rintro e_ x ⟨rfl, y⟩
   have n := i.call0 y
   refine ⟨_, rfl, ?_⟩
   refine W_nil (N_then ?_)
   rcases gx_bif hm with ⟨l, hm⟩ | ⟨l, hm⟩
   ·refine gT l (G_seq (G_region (wR 2 [(4, iv c)] x (W_nil (N_then (G_ret (N_block_ret (N_then_ret (N_then_ret ?_)))))))))
    obtain rfl := Option.some.inj hm
    obtain rfl := t _ rfl
    have hm := q; simp only [Sum.elim_inr] at hm
    refine N_block_ret (N_meet_ret (N_then_ret ?_))
    obtain rfl := Option.some.inj hm
    exact N_ret [iv c] (rC RVs_nil) (⟨rfl, n.pk []⟩)
   refine gF l (G_skip (N_block (N_then (G_region (wR 2 [(0, .slice f b.length g), (1, .func (.func 110) #[] #[pB d 0]), (7, iv (b.length : Int)), (8, iv (w64 (c + 1)))] x (W_nil ?_))))))
   obtain rfl := Option.some.inj hm
   exact N_loop fun a ha => ⟨_, rfl, n.pk [], ha.s⟩
  refine gF k (G_exit (N_then_exit (N_then_exit (N_block_eq ?_))))
  obtain rfl := Option.some.inj hm
  obtain rfl := t _ rfl
  exact N_meet fun a ha => ⟨_, rfl, i.pk [], ha.s⟩
 intro I G ⟨v, hout_, z, B⟩
 refine N_use B ?_
 subst hout_
 have hm := q; simp only [Sum.elim_inl] at hm
 refine N_then (G_seq (G_region (wR 1 [(4, iv (-1))] G (W_nil (N_then (G_ret ?_))))))
 obtain rfl := Option.some.inj hm
 exact N_ret [iv (-1)] (rC RVs_nil) (⟨rfl, z.pk []⟩)
theorem c_slices_ContainsFunc_109__i_areRoutes_1 (w : World) (a : List Route) (d : Option Addr) (c : Nat) (j : rdS encRoute w a d c) (f : Int) (b : Nat) (k : w.heap[b]? = some (.cells ⟨[iv f]⟩ 3 (0, 0))) {r : Bool} (hm : M.slices_ContainsFunc_109__i_areRoutes_1 a f = some r) :
  Calls Tryz.prog 109 #[.slice d a.length c, .func (.func 110) #[] #[pB b 0]] w fun e w' => e = .returned (.bool r) ∧ Mem [] w w' [] := by
 unfold M.slices_ContainsFunc_109__i_areRoutes_1 at hm
 refine cE Tryz.func109 ?_
 have M0 := Mem.refl [] w
 refine G_seq (G_region (wR 1 [(0, .slice d a.length c), (1, .func (.func 110) #[] #[pB b 0])] w (W_nil (N_then (G_seq (G_region (wR 2 [(5, .slice d a.length c), (6, .func (.func 110) #[] #[pB b 0])] w ?_)))))))
 obtain ⟨g, l, hm⟩ := gx_bind hm
 refine wC 159 #[.slice d a.length c, .func (.func 110) #[] #[pB b 0]] ((c_slices_IndexFunc_159__i_areRoutes_1 w a d c (j.mem0 M0) f b (M0.ro k) l).mono ?_)
 rintro e_ m ⟨rfl, h⟩
 have i := M0.call0 h
 refine ⟨_, rfl, ?_⟩
 refine wR 2 [(4, .bool (decide (g ≥ 0)))] m (W_nil (N_then (G_ret ?_)))
 obtain rfl := Option.some.inj hm
 exact N_ret [.bool (decide (g ≥ 0))] (rC RVs_nil) (⟨rfl, i.pk []⟩)
theorem c_i_areRoutes (w : World) (c : List Route) (f : Option Addr) (d : Nat) (y : rdS encRoute w c f d) (g : Int) {r : Bool} (hm : M.i_areRoutes c g = some r) :
  Calls Tryz.prog 58 #[.slice f c.length d, iv g] w fun e w' => e = .returned (.bool r) ∧ Mem [] w w' [] := by
 unfold M.i_areRoutes at hm
 refine cE Tryz.func58 ?_
 have M0 := Mem.refl [] w
 refine G_seq (G_region (wN (.cells ⟨[iv g]⟩ 3 (0, 0)) M0 ?_))
 intro h m n
 refine wR 1 [(0, .slice f c.length d), (3, pB h 0)] m (W_nil (N_then (G_seq ?_)))
 obtain ⟨q, B, A⟩ := gx_bind hm
 refine G_meet (fun a w' => Mem [] w w' [] ∧ Sat Tryz.f58.ntmps [(4, .bool q)] a) ?_ ?_
 ·have hm := B
  refine G_region (wV (iv g) m (eL false 1 0 (n.blk 0 rfl)) ?_)
  obtain ⟨E, C, hm⟩ := gx_bind hm
  refine wC 108 #[iv g, iv 1, iv 2] ((c_i_inside m g 1 2 C).mono ?_)
  rintro e_ i ⟨rfl, t⟩
  have j := n.call0 t
  refine ⟨_, rfl, ?_⟩
  refine wR 1 [(0, .slice f c.length d), (3, pB h 0), (7, .bool E)] i ?_
  rcases gx_bif hm with ⟨k, hm⟩ | ⟨k, hm⟩
  ·refine wK 7 true k (wR 5 [(0, .slice f c.length d), (3, pB h 0), (12, .bool ((c.length : Int) == 8))] i ?_)
   rcases gx_bif hm with ⟨l, hm⟩ | ⟨l, hm⟩
   ·refine wK 12 true l (wR 2 [(12, .bool true), (13, .slice f c.length d), (14, .func (.func 110) #[] #[pB h 0])] i ?_)
    obtain ⟨F, D, hm⟩ := gx_bind hm
    refine wC 109 #[.slice f c.length d, .func (.func 110) #[] #[pB h 0]] ((c_slices_ContainsFunc_109__i_areRoutes_1 i c f d (y.mem0 j) g h (j.blk 0 (b := h) (o := .cells ⟨[iv g]⟩ 3 (0, 0)) (by kernel_rfl)) D).mono ?_)
    rintro e_ G ⟨rfl, u⟩
    have v := j.call0 u
    refine ⟨_, rfl, ?_⟩
    refine wR 3 [(4, .bool (!F))] G (W_nil ?_)
    obtain rfl := Option.some.inj hm
    exact N_meet fun a ha => ⟨v.pk [], ha.s⟩
   refine wK 12 false l (wR 6 [(4, .bool false)] i (W_nil ?_))
   obtain rfl := Option.some.inj hm
   exact N_meet fun a ha => ⟨j.pk [], ha.s⟩
  refine wK 7 false k (wR 11 [(4, .bool false)] i (W_nil ?_))
  obtain rfl := Option.some.inj hm
  exact N_meet fun a ha => ⟨j.pk [], ha.s⟩
 intro H I ⟨x, z⟩
 refine N_use z ?_
 have hm := A
 refine N_then (G_ret ?_)
 obtain rfl := Option.some.inj hm
 exact N_ret [.bool q] (rC RVs_nil) (⟨rfl, x.pk []⟩)
theorem c_i_isMask (w : World) (a : Int) {r : Bool} (hm : M.i_isMask a = some r) :
  Calls Tryz.prog 112 #[iv a] w fun e w' => e = .returned (.bool r) ∧ Mem [] w w' [] := by
 unfold M.i_isMask at hm
 refine cE Tryz.func112 ?_
 have M0 := Mem.refl [] w
 refine G_seq (G_region (wR 1 [(0, iv a)] w (W_nil (N_then (G_seq (G_region (wR 1 [(3, iv a)] w ?_)))))))
 obtain ⟨b, f, hm⟩ := gx_bind hm
 refine wC 108 #[iv a, iv 0, iv 16] ((c_i_inside w a 0 16 f).mono ?_)
 rintro e_ g ⟨rfl, c⟩
 have d := M0.call0 c
 refine ⟨_, rfl, ?_⟩
 refine wR 1 [(2, .bool b)] g (W_nil (N_then (G_ret ?_)))
 obtain rfl := Option.some.inj hm
 exact N_ret [.bool b] (rC RVs_nil) (⟨rfl, d.pk []⟩)
theorem c_i_isIrq (w : World) (a : Int) {r : Bool} (hm : M.i_isIrq a = some r) :
  Calls Tryz.prog 144 #[iv a] w fun e w' => e = .returned (.bool r) ∧ Mem [] w w' [] := by
 unfold M.i_isIrq at hm
 refine cE Tryz.func144 ?_
 have M0 := Mem.refl [] w
 refine G_seq (G_region (wR 1 [(0, iv a)] w (W_nil (N_then (G_seq (G_region (wR 1 [(3, iv a)] w ?_)))))))
 obtain ⟨b, f, hm⟩ := gx_bind hm
 refine wC 108 #[iv a, iv 0, iv 7] ((c_i_inside w a 0 7 f).mono ?_)
 rintro e_ g ⟨rfl, c⟩
 have d := M0.call0 c
 refine ⟨_, rfl, ?_⟩
 refine wR 1 [(2, .bool b)] g (W_nil (N_then (G_ret ?_)))
 obtain rfl := Option.some.inj hm
 exact N_ret [.bool b] (rC RVs_nil) (⟨rfl, d.pk []⟩)
theorem c_i_findSlot_1 (w : World) (b : Slot) (h : Int) (d : Nat) (m : w.heap[d]? = some (.cells ⟨[iv h]⟩ 3 (0, 0))) {r : Bool} (hm : M.i_findSlot_1 b h = some r) :
  Calls Tryz.prog 211 #[.agg #[iv b.State, iv b.Irq, iv b.Priority], pB d 0] w fun e w' => e = .returned (.bool r) ∧ Mem [] w w' [] := by
 unfold M.i_findSlot_1 at hm
 refine cE Tryz.func211 ?_
 have M0 := Mem.refl [] w
 refine G_seq (G_region (wN (.cells ⟨[iv b.State, iv b.Irq, iv b.Priority]⟩ 117 (0, 0)) M0 ?_))
 intro g c f
 refine wR 1 [(1, pB d 0), (2, pB g 0)] c (W_nil (N_then (G_seq ?_)))
 obtain ⟨j, o, n⟩ := gx_bind hm
 refine G_meet (fun a w' => Mem [] w w' [] ∧ Sat Tryz.f211.ntmps [(3, .bool j)] a) ?_ ?_
 ·have hm := o
  refine G_region (wR 1 [(1, pB d 0), (2, pB g 0), (4, pB g 0)] c (wV (iv b.State) c (eL false 1 0 (f.blk 0 rfl)) (wR 2 [(1, pB d 0), (2, pB g 0), (7, .bool (b.State != 0))] c ?_)))
  rcases gx_bif hm with ⟨i, hm⟩ | ⟨i, hm⟩
  ·refine wK 7 true i (wR 1 [(1, pB d 0), (7, .bool true), (8, pB g 1)] c (wV (iv b.Irq) c (eL false 1 1 (f.blk 0 rfl)) (wV (iv h) c (eL false 1 0 (f.ro m)) (wR 3 [(3, .bool (b.Irq == h))] c (W_nil ?_)))))
   obtain rfl := Option.some.inj hm
   exact N_meet fun a ha => ⟨f.pk [], ha.s⟩
  refine wK 7 false i (wR 6 [(3, .bool false)] c (W_nil ?_))
  obtain rfl := Option.some.inj hm
  exact N_meet fun a ha => ⟨f.pk [], ha.s⟩
 intro q t ⟨k, l⟩
 refine N_use l ?_
 have hm := n
 refine N_then (G_ret ?_)
 obtain rfl := Option.some.inj hm
 exact N_ret [.bool j] (rC RVs_nil) (⟨rfl, k.pk []⟩)
theorem c_slices_IndexFunc_210__i_findSlot_1 (w : World) (b : List Slot) (f : Option Addr) (g : Nat) (o : rdS encSlot w b f g) (m : Int) (d : Nat) (C : w.heap[d]? = some (.cells ⟨[iv m]⟩ 3 (0, 0))) {r : Int} (hm : M.slices_IndexFunc_210__i_findSlot_1 b m = some r) :
  Calls Tryz.prog 210 #[.slice f b.length g, .func (.func 211) #[] #[pB d 0]] w fun e w' => e = .returned (iv r) ∧ Mem [] w w' [] := by
 unfold M.slices_IndexFunc_210__i_findSlot_1 at hm
 refine cE Tryz.func210 ?_
 have M0 := Mem.refl [] w
 refine G_seq (G_region (wR 1 [(0, .slice f b.length g), (1, .func (.func 211) #[] #[pB d 0])] w (W_nil (N_then (G_seq (G_seq (G_region (wR 3 [(0, .slice f b.length g), (1, .func (.func 211) #[] #[pB d 0]), (7, iv (b.length : Int)), (8, iv 0)] w (W_nil (N_then ?_))))))))))
 obtain ⟨F, E, q⟩ := gx_bind hm
 refine G_meet (fun a w' => ∃ (v : Unit), F = .inl v ∧ Mem [] w w' [] ∧ Sat Tryz.f210.ntmps [] a) ?_ ?_
 ·refine G_block (G_while (σ := Int) (ρ := (Unit) ⊕ (Int)) (fun c a w' => Mem [] w w' [] ∧ Sat Tryz.f210.ntmps [(0, .slice f b.length g), (1, .func (.func 211) #[] #[pB d 0]), (7, iv (b.length : Int)), (8, iv c)] a) E (fun a ha => ⟨M0.pk [], ha.s⟩) ?_)
  clear hm
  intro c K hm t H i ⟨j, A⟩
  refine G_use A (G_seq (G_region (wR 1 [(0, .slice f b.length g), (1, .func (.func 211) #[] #[pB d 0]), (7, iv (b.length : Int)), (8, iv c), (9, .bool (decide (c < (b.length : Int))))] i (W_nil (N_then (G_seq ?_))))))
  rcases gx_bif hm with ⟨k, hm⟩ | ⟨k, hm⟩
  ·refine gT k (G_skip (N_then (G_seq (G_block (G_seq (G_region (wR 2 [(0, .slice f b.length g), (1, .func (.func 211) #[] #[pB d 0]), (5, iv c), (7, iv (b.length : Int)), (8, iv c)] i (W_nil (N_then (G_seq (G_region (wR 3 [(0, .slice f b.length g), (1, .func (.func 211) #[] #[pB d 0]), (5, iv c), (7, iv (b.length : Int)), (8, iv c), (11, .func (.func 211) #[] #[pB d 0]), (12, .slice f b.length g), (13, iv c)] i ?_))))))))))))
   obtain ⟨h, u, hm⟩ := gx_bind hm
   refine wV (elemP f (c.toNat * 3)) i (eI (o.mem0 j) rfl u) (wV (.agg #[iv h.State, iv h.Irq, iv h.Priority]) i (eE true 3 0 (c.toNat * 3) (o.mem0 j) u) ?_)
   obtain ⟨J, D, hm⟩ := gx_bind hm
   refine wC 211 #[.agg #[iv h.State, iv h.Irq, iv h.Priority], pB d 0] ((c_i_findSlot_1 i h m d (j.ro C) D).mono ?_)
   rintro e_ x ⟨rfl, y⟩
   have n := j.call0 y
   refine ⟨_, rfl, ?_⟩
   refine W_nil (N_then ?_)
   rcases gx_bif hm with ⟨l, hm⟩ | ⟨l, hm⟩
   ·refine gT l (G_seq (G_region (wR 2 [(4, iv c)] x (W_nil (N_then (G_ret (N_block_ret (N_then_ret (N_then_ret ?_)))))))))
    obtain rfl := Option.some.inj hm
    obtain rfl := t _ rfl
    have hm := q; simp only [Sum.elim_inr] at hm
    refine N_block_ret (N_meet_ret (N_then_ret ?_))
    obtain rfl := Option.some.inj hm
    exact N_ret [iv c] (rC RVs_nil) (⟨rfl, n.pk []⟩)
   refine gF l (G_skip (N_block (N_then (G_region (wR 2 [(0, .slice f b.length g), (1, .func (.func 211) #[] #[pB d 0]), (7, iv (b.length : Int)), (8, iv (w64 (c + 1)))] x (W_nil ?_))))))
   obtain rfl := Option.some.inj hm
   exact N_loop fun a ha => ⟨_, rfl, n.pk [], ha.s⟩
  refine gF k (G_exit (N_then_exit (N_then_exit (N_block_eq ?_))))
  obtain rfl := Option.some.inj hm
  obtain rfl := t _ rfl
  exact N_meet fun a ha => ⟨_, rfl, j.pk [], ha.s⟩
 intro I G ⟨v, hout_, z, B⟩
 refine N_use B ?_
 subst hout_
 have hm := q; simp only [Sum.elim_inl] at hm
 refine N_then (G_seq (G_region (wR 1 [(4, iv (-1))] G (W_nil (N_then (G_ret ?_))))))
 obtain rfl := Option.some.inj hm
 exact N_ret [iv (-1)] (rC RVs_nil) (⟨rfl, z.pk []⟩)
theorem c_i_findSlot (w : World) (a : List Slot) (d : Option Addr) (c : Nat) (m : rdS encSlot w a d c) (g : Int) {r : Int} (hm : M.i_findSlot a g = some r) :
  Calls Tryz.prog 165 #[.slice d a.length c, iv g] w fun e w' => e = .returned (iv r) ∧ Mem [] w w' [] := by
 unfold M.i_findSlot at hm
 refine cE Tryz.func165 ?_
 have M0 := Mem.refl [] w
 refine G_seq (G_region (wN (.cells ⟨[iv g]⟩ 3 (0, 0)) M0 ?_))
 intro f i h
 refine wR 1 [(0, .slice d a.length c), (3, pB f 0)] i (W_nil (N_then (G_seq (G_region (wR 2 [(5, .slice d a.length c), (6, .func (.func 211) #[] #[pB f 0])] i ?_)))))
 obtain ⟨j, n, hm⟩ := gx_bind hm
 refine wC 210 #[.slice d a.length c, .func (.func 211) #[] #[pB f 0]] ((c_slices_IndexFunc_210__i_findSlot_1 i a d c (m.mem0 h) g f (h.blk 0 (b := f) (o := .cells ⟨[iv g]⟩ 3 (0, 0)) (by kernel_rfl)) n).mono ?_)
 rintro e_ q ⟨rfl, k⟩
 have l := h.call0 k
 refine ⟨_, rfl, ?_⟩
 refine wR 1 [(4, iv j)] q (W_nil (N_then (G_ret ?_)))
 obtain rfl := Option.some.inj hm
 exact N_ret [iv j] (rC RVs_nil) (⟨rfl, l.pk []⟩)
theorem c_i_AreSlots (w : World) (b : List Slot) (d : Option Addr) (c : Nat) (n : rdS encSlot w b d c) {r : Bool} (hm : M.i_AreSlots b = some r) :
  Calls Tryz.prog 195 #[.slice d b.length c] w fun e w' => e = .returned (.bool r) ∧ Mem [] w w' [] := by
 unfold M.i_AreSlots at hm
 refine cE Tryz.func195 ?_
 have M0 := Mem.refl [] w
 refine G_seq (G_region (wR 1 [(0, .slice d b.length c)] w (W_nil (N_then (G_seq (G_seq (G_region (wR 3 [(0, .slice d b.length c), (7, .bool ((b.length : Int) != 4))] w (W_nil (N_then ?_))))))))))
 rcases gx_bif hm with ⟨v, hm⟩ | ⟨v, hm⟩
 ·refine gT v (G_seq (G_region (wR 1 [(2, .bool false)] w (W_nil (N_then (G_ret (N_then_ret ?_)))))))
  obtain rfl := Option.some.inj hm
  exact N_ret [.bool false] (rC RVs_nil) (⟨rfl, M0.pk []⟩)
 refine gF v (G_skip (N_then (G_seq (G_seq (G_region (wR 3 [(0, .slice d b.length c), (8, .slice d b.length c), (9, iv (b.length : Int)), (10, iv 0)] w (W_nil (N_then ?_))))))))
 obtain ⟨ae, ac, F⟩ := gx_bind hm
 refine G_meet (fun a w' => ∃ (K : Unit), ae = .inl K ∧ Mem [] w w' [] ∧ Sat Tryz.f195.ntmps [] a) ?_ ?_
 ·refine G_block (G_while (σ := Int) (ρ := (Unit) ⊕ (Bool)) (fun g a w' => Mem [] w w' [] ∧ Sat Tryz.f195.ntmps [(0, .slice d b.length c), (8, .slice d b.length c), (9, iv (b.length : Int)), (10, iv g)] a) ac (fun a ha => ⟨M0.pk [], ha.s⟩) ?_)
  clear hm
  intro g ao hm G ah t ⟨m, T⟩
  refine G_use T (G_seq (G_region (wR 1 [(0, .slice d b.length c), (8, .slice d b.length c), (9, iv (b.length : Int)), (10, iv g), (11, .bool (decide (g < (b.length : Int))))] t (W_nil (N_then (G_seq ?_))))))
  rcases gx_bif hm with ⟨x, hm⟩ | ⟨x, hm⟩
  ·refine gT x (G_skip (N_then (G_seq (G_block (G_seq (G_region (wR 1 [(0, .slice d b.length c), (8, .slice d b.length c), (9, iv (b.length : Int)), (10, iv g), (12, iv g)] t ?_)))))))
   obtain ⟨f, I, hm⟩ := gx_bind hm
   refine wV (elemP d (g.toNat * 3)) t (eI (n.mem0 m) rfl I) (wV (.agg #[iv f.State, iv f.Irq, iv f.Priority]) t (eE true 3 0 (g.toNat * 3) (n.mem0 m) I) (wN (.cells ⟨[iv 0, iv 0, iv 0]⟩ 117 (0, 0)) m ?_))
   intro h af N
   refine wR 1 [(0, .slice d b.length c), (3, iv g), (4, pB h 0), (8, .slice d b.length c), (9, iv (b.length : Int)), (10, iv g), (14, .agg #[iv f.State, iv f.Irq, iv f.Priority])] af (wS true 3 0 (.agg #[iv f.State, iv f.Irq, iv f.Priority]) 0 [iv f.State, iv f.Irq, iv f.Priority] N rfl ?_)
   intro i j
   refine W_nil (N_then (G_seq (G_seq (G_region (wR 1 [(0, .slice d b.length c), (3, iv g), (4, pB h 0), (8, .slice d b.length c), (9, iv (b.length : Int)), (10, iv g), (15, pB h 0)] i (wV (iv f.State) i (eL false 1 0 (j.blk 0 rfl)) (wR 1 [(0, .slice d b.length c), (3, iv g), (4, pB h 0), (8, .slice d b.length c), (9, iv (b.length : Int)), (10, iv g), (17, .bool (f.State == 0))] i (W_nil (N_then ?_)))))))))
   rcases gx_bif hm with ⟨y, hm⟩ | ⟨y, hm⟩
   ·refine gT y (G_seq (G_seq (G_region (wV (.agg #[iv f.State, iv f.Irq, iv f.Priority]) i (eL true 3 0 (j.blk 0 rfl)) (wR 1 [(0, .slice d b.length c), (8, .slice d b.length c), (9, iv (b.length : Int)), (10, iv g), (18, .agg #[iv f.State, iv f.Irq, iv f.Priority]), (19, .agg #[iv 0, iv 0, iv 0])] i (wV (.bool (!((f.State == 0) && ((f.Irq == 0) && ((f.Priority == 0) && true))))) i (E_neqAgg _ _ _ _ [iv f.State, iv f.Irq, iv f.Priority] [iv 0, iv 0, iv 0] ((f.State == 0) && ((f.Irq == 0) && ((f.Priority == 0) && true))) rfl (by kernel_rfl) (by kernel_rfl) (by kernel_rfl) (by kernel_rfl) (by kernel_rfl) (by kernel_rfl)) (W_nil (N_then ?_))))))))
    rcases gx_bif hm with ⟨z, hm⟩ | ⟨z, hm⟩
    ·refine gT z (G_seq (G_region (wR 1 [(2, .bool false)] i (W_nil (N_then (G_ret (N_then_ret (N_then_ret (N_block_ret (N_then_ret (N_then_ret ?_)))))))))))
     obtain rfl := Option.some.inj hm
     obtain rfl := G _ rfl
     have hm := F; simp only [Sum.elim_inr] at hm
     refine N_block_ret (N_meet_ret (N_then_ret ?_))
     obtain rfl := Option.some.inj hm
     exact N_ret [.bool false] (rC RVs_nil) (⟨rfl, j.pk []⟩)
    refine gF z (G_skip (N_then (G_exit (N_then_exit (N_block_eq (N_then (G_region (wR 2 [(0, .slice d b.length c), (8, .slice d b.length c), (9, iv (b.length : Int)), (10, iv (w64 (g + 1)))] i (W_nil ?_)))))))))
    obtain rfl := Option.some.inj hm
    exact N_loop fun a ha => ⟨_, rfl, j.pk [], ha.s⟩
   refine gF y (G_skip (N_then (G_seq ?_)))
   obtain ⟨ad, X, W⟩ := gx_bind hm
   refine G_meet (fun a w' => Mem [] w w' [] ∧ Sat Tryz.f195.ntmps [(0, .slice d b.length c), (8, .slice d b.length c), (9, iv (b.length : Int)), (10, iv g), (45, .bool ad)] a) ?_ ?_
   ·have hm := X
    refine G_quiet (by kernel_rfl) (by kernel_rfl) j (zR [pB h 0] [(0, .slice d b.length c), (3, iv g), (4, pB h 0), (8, .slice d b.length c), (9, iv (b.length : Int)), (10, iv g), (21, pB h 0)] (zV (iv f.State) (fun w_ M_ => (eL false 1 0 (M_.blk 0 rfl))) ?_))
    obtain ⟨o, Y, hm⟩ := gx_bind hm
    refine Z_call 108 #[iv f.State, iv 1, iv 3] (.bool o) (by kernel_rfl) (fun w_ => by kernel_rfl) (fun w_ M_ => (c_i_inside w_ f.State 1 3 Y).mono fun e w2_ h_ => ⟨h_.1, M_.call0 h_.2⟩) (zR [.bool (!o), .bool (!o)] [(0, .slice d b.length c), (3, iv g), (4, pB h 0), (8, .slice d b.length c), (9, iv (b.length : Int)), (10, iv g), (25, .bool (!o))] ?_)
    rcases gx_bif hm with ⟨A, hm⟩ | ⟨A, hm⟩
    ·refine zK 25 true A (zR [undef, undef, undef, undef, .bool true, .bool true, undef, undef, undef, undef, .bool true, .bool true, undef, undef, undef, undef, undef, undef, undef, .bool true] [(0, .slice d b.length c), (8, .slice d b.length c), (9, iv (b.length : Int)), (10, iv g), (45, .bool true)] (Z_end fun ak O => ?_))
     obtain rfl := Option.some.inj hm
     exact N_meet fun a ha => ⟨O.pk [], ha.s⟩
    refine zK 25 false A (zR [pB h 1] [(0, .slice d b.length c), (3, iv g), (4, pB h 0), (8, .slice d b.length c), (9, iv (b.length : Int)), (10, iv g), (25, .bool false), (26, pB h 1)] (zV (iv f.Irq) (fun w_ M_ => (eL false 1 1 (M_.blk 0 rfl))) ?_))
    obtain ⟨k, Z, hm⟩ := gx_bind hm
    refine Z_call 144 #[iv f.Irq] (.bool k) (by kernel_rfl) (fun w_ => by kernel_rfl) (fun w_ M_ => (c_i_isIrq w_ f.Irq Z).mono fun e w2_ h_ => ⟨h_.1, M_.call0 h_.2⟩) (zR [.bool (!k), .bool (!k), .bool (!k)] [(0, .slice d b.length c), (3, iv g), (4, pB h 0), (8, .slice d b.length c), (9, iv (b.length : Int)), (10, iv g), (31, .bool (!k))] ?_)
    rcases gx_bif hm with ⟨B, hm⟩ | ⟨B, hm⟩
    ·refine zK 31 true B (zR [undef, undef, undef, undef, .bool true, .bool true, undef, undef, undef, undef, undef, undef, undef, .bool true] [(0, .slice d b.length c), (8, .slice d b.length c), (9, iv (b.length : Int)), (10, iv g), (45, .bool true)] (Z_end fun al P => ?_))
     obtain rfl := Option.some.inj hm
     exact N_meet fun a ha => ⟨P.pk [], ha.s⟩
    refine zK 31 false B (zR [pB h 2] [(0, .slice d b.length c), (3, iv g), (4, pB h 0), (8, .slice d b.length c), (9, iv (b.length : Int)), (10, iv g), (31, .bool false), (32, pB h 2)] (zV (iv f.Priority) (fun w_ M_ => (eL false 1 2 (M_.blk 0 rfl))) ?_))
    obtain ⟨l, aa, hm⟩ := gx_bind hm
    refine Z_call 111 #[iv f.Priority] (.bool l) (by kernel_rfl) (fun w_ => by kernel_rfl) (fun w_ M_ => (c_i_isPriority w_ f.Priority aa).mono fun e w2_ h_ => ⟨h_.1, M_.call0 h_.2⟩) (zR [.bool (!l), .bool (!l), .bool (!l)] [(0, .slice d b.length c), (3, iv g), (4, pB h 0), (8, .slice d b.length c), (9, iv (b.length : Int)), (10, iv g), (37, .bool (!l))] ?_)
    rcases gx_bif hm with ⟨C, hm⟩ | ⟨C, hm⟩
    ·refine zK 37 true C (zR [undef, undef, undef, undef, undef, undef, undef, .bool true] [(0, .slice d b.length c), (8, .slice d b.length c), (9, iv (b.length : Int)), (10, iv g), (45, .bool true)] (Z_end fun am Q => ?_))
     obtain rfl := Option.some.inj hm
     exact N_meet fun a ha => ⟨Q.pk [], ha.s⟩
    refine zK 37 false C (zR [.slice d b.length c, iv g] [(0, .slice d b.length c), (4, pB h 0), (8, .slice d b.length c), (9, iv (b.length : Int)), (10, iv g), (37, .bool false), (38, .slice d b.length c), (39, iv g)] ?_)
    obtain ⟨u, J, hm⟩ := gx_bind hm
    refine zV (.slice (subP d (0 : Int).toNat c 3) u.length (c - (0 : Int).toNat)) (fun w_ M_ => (E_slice (E := encSlot) _ _ _ _ b.length 0 g rfl (by kernel_rfl) (Or.inl ⟨rfl, rfl⟩) (Or.inr ⟨_, rfl, by kernel_rfl⟩) (by kernel_rfl) (n.mem0 M_) rfl J)) (zR [pB h 1] [(0, .slice d b.length c), (8, .slice d b.length c), (9, iv (b.length : Int)), (10, iv g), (37, .bool false), (40, .slice (subP d (0 : Int).toNat c 3) u.length (c - (0 : Int).toNat)), (41, pB h 1)] (zV (iv f.Irq) (fun w_ M_ => (eL false 1 1 (M_.blk 0 rfl))) ?_))
    obtain ⟨q, ab, hm⟩ := gx_bind hm
    refine Z_call 165 #[.slice (subP d (0 : Int).toNat c 3) u.length (c - (0 : Int).toNat), iv f.Irq] (iv q) (by kernel_rfl) (fun w_ => by kernel_rfl) (fun w_ M_ => (c_i_findSlot w_ u (subP d (0 : Int).toNat c 3) (c - (0 : Int).toNat) ((n.mem0 M_).sliceM J) f.Irq ab).mono fun e w2_ h_ => ⟨h_.1, M_.call0 h_.2⟩) (zR [.bool (decide (q ≥ 0)), .bool (decide (q ≥ 0))] [(0, .slice d b.length c), (8, .slice d b.length c), (9, iv (b.length : Int)), (10, iv g), (45, .bool (decide (q ≥ 0)))] (Z_end fun an R => ?_))
    obtain rfl := Option.some.inj hm
    exact N_meet fun a ha => ⟨R.pk [], ha.s⟩
   intro ai L ⟨H, U⟩
   refine N_use U ?_
   have hm := W
   refine N_then ?_
   rcases gx_bif hm with ⟨D, hm⟩ | ⟨D, hm⟩
   ·refine gT D (G_seq (G_region (wR 1 [(2, .bool false)] L (W_nil (N_then (G_ret (N_block_ret (N_then_ret (N_then_ret ?_)))))))))
    obtain rfl := Option.some.inj hm
    obtain rfl := G _ rfl
    have hm := F; simp only [Sum.elim_inr] at hm
    refine N_block_ret (N_meet_ret (N_then_ret ?_))
    obtain rfl := Option.some.inj hm
    exact N_ret [.bool false] (rC RVs_nil) (⟨rfl, H.pk []⟩)
   refine gF D (G_skip (N_block (N_then (G_region (wR 2 [(0, .slice d b.length c), (8, .slice d b.length c), (9, iv (b.length : Int)), (10, iv (w64 (g + 1)))] L (W_nil ?_))))))
   obtain rfl := Option.some.inj hm
   exact N_loop fun a ha => ⟨_, rfl, H.pk [], ha.s⟩
  refine gF x (G_exit (N_then_exit (N_then_exit (N_block_eq ?_))))
  obtain rfl := Option.some.inj hm
  obtain rfl := G _ rfl
  exact N_meet fun a ha => ⟨_, rfl, m.pk [], ha.s⟩
 intro aj ag ⟨K, hout_, S, V⟩
 refine N_use V ?_
 subst hout_
 have hm := F; simp only [Sum.elim_inl] at hm
 refine N_then (G_seq (G_region (wR 1 [(2, .bool true)] ag (W_nil (N_then (G_ret ?_))))))
 obtain rfl := Option.some.inj hm
 exact N_ret [.bool true] (rC RVs_nil) (⟨rfl, S.pk []⟩)
theorem c_i_waiterIndex_1 (w : World) (a : Waiter) (c : Int) (d : Nat) (h : w.heap[d]? = some (.cells ⟨[iv c]⟩ 3 (0, 0))) {r : Bool} (hm : M.i_waiterIndex_1 a c = some r) :
  Calls Tryz.prog 239 #[.agg #[iv a.Irq, iv a.Priority], pB d 0] w fun e w' => e = .returned (.bool r) ∧ Mem [] w w' [] := by
 unfold M.i_waiterIndex_1 at hm
 refine cE Tryz.func239 ?_
 have M0 := Mem.refl [] w
 refine G_seq (G_region (wN (.cells ⟨[iv a.Irq, iv a.Priority]⟩ 142 (0, 0)) M0 ?_))
 intro g b f
 refine wR 1 [(1, pB d 0), (2, pB g 0)] b (W_nil (N_then (G_seq (G_region (wR 1 [(1, pB d 0), (4, pB g 0)] b (wV (iv a.Irq) b (eL false 1 0 (f.blk 0 rfl)) (wV (iv c) b (eL false 1 0 (f.ro h)) (wR 2 [(3, .bool (a.Irq == c))] b (W_nil (N_then (G_ret ?_)))))))))))
 obtain rfl := Option.some.inj hm
 exact N_ret [.bool (a.Irq == c)] (rC RVs_nil) (⟨rfl, f.pk []⟩)
theorem c_slices_IndexFunc_166__i_waiterIndex_1 (w : World) (b : List Waiter) (f : Option Addr) (g : Nat) (o : rdS encWaiter w b f g) (m : Int) (d : Nat) (C : w.heap[d]? = some (.cells ⟨[iv m]⟩ 3 (0, 0))) {r : Int} (hm : M.slices_IndexFunc_166__i_waiterIndex_1 b m = some r) :
  Calls Tryz.prog 166 #[.slice f b.length g, .func (.func 239) #[] #[pB d 0]] w fun e w' => e = .returned (iv r) ∧ Mem [] w w' [] := by
 unfold M.slices_IndexFunc_166__i_waiterIndex_1 at hm
 refine cE Tryz.func166 ?_
 have M0 := Mem.refl [] w
 refine G_seq (G_region (wR 1 [(0, .slice f b.length g), (1, .func (.func 239) #[] #[pB d 0])] w (W_nil (N_then (G_seq (G_seq (G_region (wR 3 [(0, .slice f b.length g), (1, .func (.func 239) #[] #[pB d 0]), (7, iv (b.length : Int)), (8, iv 0)] w (W_nil (N_then ?_))))))))))
 obtain ⟨F, E, q⟩ := gx_bind hm
 refine G_meet (fun a w' => ∃ (v : Unit), F = .inl v ∧ Mem [] w w' [] ∧ Sat Tryz.f166.ntmps [] a) ?_ ?_
 ·refine G_block (G_while (σ := Int) (ρ := (Unit) ⊕ (Int)) (fun c a w' => Mem [] w w' [] ∧ Sat Tryz.f166.ntmps [(0, .slice f b.length g), (1, .func (.func 239) #[] #[pB d 0]), (7, iv (b.length : Int)), (8, iv c)] a) E (fun a ha => ⟨M0.pk [], ha.s⟩) ?_)
  clear hm
  intro c K hm t H h ⟨i, A⟩
  refine G_use A (G_seq (G_region (wR 1 [(0, .slice f b.length g), (1, .func (.func 239) #[] #[pB d 0]), (7, iv (b.length : Int)), (8, iv c), (9, .bool (decide (c < (b.length : Int))))] h (W_nil (N_then (G_seq ?_))))))
  rcases gx_bif hm with ⟨k, hm⟩ | ⟨k, hm⟩
  ·refine gT k (G_skip (N_then (G_seq (G_block (G_seq (G_region (wR 2 [(0, .slice f b.length g), (1, .func (.func 239) #[] #[pB d 0]), (5, iv c), (7, iv (b.length : Int)), (8, iv c)] h (W_nil (N_then (G_seq (G_region (wR 3 [(0, .slice f b.length g), (1, .func (.func 239) #[] #[pB d 0]), (5, iv c), (7, iv (b.length : Int)), (8, iv c), (11, .func (.func 239) #[] #[pB d 0]), (12, .slice f b.length g), (13, iv c)] h ?_))))))))))))
   obtain ⟨j, u, hm⟩ := gx_bind hm
   refine wV (elemP f (c.toNat * 2)) h (eI (o.mem0 i) rfl u) (wV (.agg #[iv j.Irq, iv j.Priority]) h (eE true 2 0 (c.toNat * 2) (o.mem0 i) u) ?_)
   obtain ⟨J, D, hm⟩ := gx_bind hm
   refine wC 239 #[.agg #[iv j.Irq, iv j.Priority], pB d 0] ((c_i_waiterIndex_1 h j m d (i.ro C) D).mono ?_)
   rintro e_ x ⟨rfl, y⟩
   have n := i.call0 y
   refine ⟨_, rfl, ?_⟩
   refine W_nil (N_then ?_)
   rcases gx_bif hm with ⟨l, hm⟩ | ⟨l, hm⟩
   ·refine gT l (G_seq (G_region (wR 2 [(4, iv c)] x (W_nil (N_then (G_ret (N_block_ret (N_then_ret (N_then_ret ?_)))))))))
    obtain rfl := Option.some.inj hm
    obtain rfl := t _ rfl
    have hm := q; simp only [Sum.elim_inr] at hm
    refine N_block_ret (N_meet_ret (N_then_ret ?_))
    obtain rfl := Option.some.inj hm
    exact N_ret [iv c] (rC RVs_nil) (⟨rfl, n.pk []⟩)
   refine gF l (G_skip (N_block (N_then (G_region (wR 2 [(0, .slice f b.length g), (1, .func (.func 239) #[] #[pB d 0]), (7, iv (b.length : Int)), (8, iv (w64 (c + 1)))] x (W_nil ?_))))))
   obtain rfl := Option.some.inj hm
   exact N_loop fun a ha => ⟨_, rfl, n.pk [], ha.s⟩
  refine gF k (G_exit (N_then_exit (N_then_exit (N_block_eq ?_))))
  obtain rfl := Option.some.inj hm
  obtain rfl := t _ rfl
  exact N_meet fun a ha => ⟨_, rfl, i.pk [], ha.s⟩
 intro I G ⟨v, hout_, z, B⟩
 refine N_use B ?_
 subst hout_
 have hm := q; simp only [Sum.elim_inl] at hm
 refine N_then (G_seq (G_region (wR 1 [(4, iv (-1))] G (W_nil (N_then (G_ret ?_))))))
 obtain rfl := Option.some.inj hm
 exact N_ret [iv (-1)] (rC RVs_nil) (⟨rfl, z.pk []⟩)
end Go.Proofs.YtllhajkgkghhdaaGreat
