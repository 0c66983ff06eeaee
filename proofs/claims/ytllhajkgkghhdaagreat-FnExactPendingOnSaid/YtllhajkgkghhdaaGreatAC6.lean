/- The walks, printed by program: whenever the model gives r, the call returns r. Part 6. -/
import Derived.Test.YtllhajkgkghhdaaGreatAM
import Derived.Test.YtllhajkgkghhdaaGreatGxZ
import Derived.Test.YtllhajkgkghhdaaGreatProg
import Derived.Test.YtllhajkgkghhdaaGreatSh
import Derived.Test.YtllhajkgkghhdaaGreatAC5
set_option linter.unusedVariables false
set_option maxRecDepth 100000
set_option maxHeartbeats 4000000
namespace Go.Proofs.YtllhajkgkghhdaaGreat
open Go.Gx
theorem c_i_PendingOn (w : World) (b : Machine) (k : Option Addr) (h : Nat) (H : rdS encRoute w b.Routes k h) (l : Option Addr) (i : Nat) (I : rdS Gx.encB w b.Enabled l i) (m : Option Addr) (j : Nat) (J : rdS Gx.encB w b.Raised m j) (f : Option Addr) (g : Nat) (A : rdD deepInterface w b.Cpus f g) (c : Int) {r : (List Int) × Bool} (hm : M.i_PendingOn b c = some r) :
  Calls Tryz.prog 26 #[.agg #[.slice k b.Routes.length h, .slice l b.Enabled.length i, .slice m b.Raised.length j, .slice f b.Cpus.length g], iv c] w fun e w' => ∃ (N : Option Addr) (G : Nat) (P : Seg), e = .returned (.tuple #[.slice N r.1.length G, .bool r.2]) ∧ ownS Gx.encI r.1 N G P ∧ Mem [] w w' [P] := by
 unfold M.i_PendingOn at hm
 refine cE Tryz.func26 ?_
 have M0 := Mem.refl [] w
 refine G_seq (G_region (wN (.cells ⟨[.slice k b.Routes.length h, .slice l b.Enabled.length i, .slice m b.Raised.length j, .slice f b.Cpus.length g]⟩ 32 (0, 0)) M0 ?_))
 intro o F v
 refine wR 2 [(1, iv c), (2, pB o 0)] F (W_nil (N_then (G_seq (G_seq ?_))))
 obtain ⟨ad, X, W⟩ := gx_bind hm
 refine G_meet (fun a w' => Mem [] w w' [[(o, .cells ⟨[.slice k b.Routes.length h, .slice l b.Enabled.length i, .slice m b.Raised.length j, .slice f b.Cpus.length g]⟩ 32 (0, 0))]] ∧ Sat Tryz.f26.ntmps [(1, iv c), (2, pB o 0), (14, .bool ad)] a) ?_ ?_
 ·have hm := X
  refine G_region (wV (.agg #[.slice k b.Routes.length h, .slice l b.Enabled.length i, .slice m b.Raised.length j, .slice f b.Cpus.length g]) F (eL true 4 0 (v.blk 0 rfl)) ?_)
  obtain ⟨ae, Z, hm⟩ := gx_bind hm
  refine wC 15 #[.agg #[.slice k b.Routes.length h, .slice l b.Enabled.length i, .slice m b.Raised.length j, .slice f b.Cpus.length g]] ((c_i_IsMachine F b k h (H.mem0 v) l i (I.mem0 v) m j (J.mem0 v) f g (A.mem0 v) Z).mono ?_)
  rintro e_ y ⟨rfl, Q⟩
  have u := v.call0 Q
  refine ⟨_, rfl, ?_⟩
  refine wR 2 [(1, iv c), (2, pB o 0), (9, .bool (!ae))] y ?_
  rcases gx_bif hm with ⟨B, hm⟩ | ⟨B, hm⟩
  ·refine wK 9 true B (wR 5 [(1, iv c), (2, pB o 0), (14, .bool true)] y (W_nil ?_))
   obtain rfl := Option.some.inj hm
   exact N_meet fun a ha => ⟨u.pk [0], ha.s⟩
  refine wK 9 false B (wV (.agg #[.slice k b.Routes.length h, .slice l b.Enabled.length i, .slice m b.Raised.length j, .slice f b.Cpus.length g]) y (eL true 4 0 (u.blk 0 rfl)) (wR 1 [(1, iv c), (2, pB o 0), (9, .bool false), (10, .agg #[.slice k b.Routes.length h, .slice l b.Enabled.length i, .slice m b.Raised.length j, .slice f b.Cpus.length g]), (11, iv c)] y ?_))
  obtain ⟨af, aa, hm⟩ := gx_bind hm
  refine wC 66 #[.agg #[.slice k b.Routes.length h, .slice l b.Enabled.length i, .slice m b.Raised.length j, .slice f b.Cpus.length g], iv c] ((c_i_Machine_hasCpu y b k h (H.mem0 u) l i (I.mem0 u) m j (J.mem0 u) f g (A.mem0 u) c aa).mono ?_)
  rintro e_ ah ⟨rfl, R⟩
  have T := u.call0 R
  refine ⟨_, rfl, ?_⟩
  refine wR 2 [(1, iv c), (2, pB o 0), (14, .bool (!af))] ah (W_nil ?_)
  obtain rfl := Option.some.inj hm
  exact N_meet fun a ha => ⟨T.pk [0], ha.s⟩
 intro aj q ⟨n, V⟩
 refine N_use V ?_
 have hm := W
 refine N_then ?_
 rcases gx_bif hm with ⟨C, hm⟩ | ⟨C, hm⟩
 ·refine gT C (G_seq (G_region (wR 2 [(4, .slice none 0 0), (5, .bool false)] q (W_nil (N_then (G_ret (N_then_ret ?_)))))))
  obtain rfl := Option.some.inj hm
  exact N_ret [.slice none 0 0, .bool false] (rC (rC RVs_nil)) (⟨none, 0, [], rfl, ownS_nil, n.pk [100000]⟩)
 refine gF C (G_skip (N_then (G_seq (G_region (wR 1 [(1, iv c), (15, pB o 3)] q (wV (.slice f b.Cpus.length g) q (eL false 1 3 (n.blk 0 rfl)) (wR 1 [(16, .slice f b.Cpus.length g), (17, iv c)] q ?_)))))))
 obtain ⟨t, ac, hm⟩ := gx_bind hm
 obtain ⟨ak, L, D, K⟩ := id A
 obtain ⟨d, x⟩ := gxIdx_fst L ac
 refine wV (elemP f (c.toNat * 4)) q (eI (D.mem0 n) (len_fst L) x) (wV (elemP f (c.toNat * 4 + 2)) q (eF 2 (c.toNat * 4) 2 (D.mem0 n) x) (wV (.agg #[.slice ((d 1).1) t.Queue.Slots.length ((d 1).2), .slice ((d 2).1) t.Queue.Waiting.length ((d 2).2)]) q (eE true 2 2 (c.toNat * 4 + 2) (D.mem0 n) x) ?_))
 obtain ⟨O, ab, hm⟩ := gx_bind hm
 refine wC 74 #[.agg #[.slice ((d 1).1) t.Queue.Slots.length ((d 1).2), .slice ((d 2).1) t.Queue.Waiting.length ((d 2).2)]] ((c_i_pendingIrqs q (⟨t.Queue.Slots, t.Queue.Waiting⟩ : Queue) ((d 1).1) ((d 1).2) ((K.mem0 n).at_ x 1 ⟨Slot, encSlot, t.Queue.Slots, (d 1).1, (d 1).2⟩ (by kernel_rfl)) ((d 2).1) ((d 2).2) ((K.mem0 n).at_ x 2 ⟨Waiter, encWaiter, t.Queue.Waiting, (d 2).1, (d 2).2⟩ (by kernel_rfl)) ab).mono ?_)
 rintro e_ ai ⟨E, z, ag, rfl, Y, S⟩
 have U := n.call S
 refine ⟨_, rfl, ?_⟩
 refine wR 2 [(4, .slice E O.length z), (5, .bool true)] ai (W_nil (N_then (G_ret ?_)))
 obtain rfl := Option.some.inj hm
 exact N_ret [.slice E O.length z, .bool true] (rC (rC RVs_nil)) (⟨E, z, ag, rfl, Y, U.pk [1]⟩)
theorem c_l_FnExactPendingOn (w : World) (b : Machine) (A : Option Addr) (u : Nat) (ay : rdS encRoute w b.Routes A u) (B : Option Addr) (x : Nat) (az : rdS Gx.encB w b.Enabled B x) (C : Option Addr) (y : Nat) (a0 : rdS Gx.encB w b.Raised C y) (D : Option Addr) (z : Nat) (a3 : rdD deepInterface w b.Cpus D z) (m : Int) {r : Bool} (hm : M.l_FnExactPendingOn b m = some r) :
  Calls Tryz.prog 6 #[.agg #[.slice A b.Routes.length u, .slice B b.Enabled.length x, .slice C b.Raised.length y, .slice D b.Cpus.length z], iv m] w fun e w' => e = .returned (.bool r) ∧ Mem [] w w' [] := by
 unfold M.l_FnExactPendingOn at hm
 refine cE Tryz.func6 ?_
 have M0 := Mem.refl [] w
 refine G_seq (G_region (wN (.cells ⟨[.slice A b.Routes.length u, .slice B b.Enabled.length x, .slice C b.Raised.length y, .slice D b.Cpus.length z]⟩ 26 (0, 0)) M0 ?_))
 intro o a5 al
 refine wR 1 [(1, iv m), (2, pB o 0)] a5 (W_nil (N_then (G_seq (G_region (wR 1 [(1, iv m), (2, pB o 0), (5, iv 1048576)] a5 (W_nil (N_then (G_seq (G_region (wV (.agg #[.slice A b.Routes.length u, .slice B b.Enabled.length x, .slice C b.Raised.length y, .slice D b.Cpus.length z]) a5 (eL true 4 0 (al.blk 0 rfl)) (wR 1 [(1, iv m), (2, pB o 0), (5, iv 1048576), (16, .agg #[.slice A b.Routes.length u, .slice B b.Enabled.length x, .slice C b.Raised.length y, .slice D b.Cpus.length z]), (17, iv 1048576)] a5 ?_)))))))))))
 obtain ⟨dh, en, hm⟩ := gx_bind hm
 refine wC 12 #[.agg #[.slice A b.Routes.length u, .slice B b.Enabled.length x, .slice C b.Raised.length y, .slice D b.Cpus.length z], iv 1048576] ((c_l_szMachine a5 b A u (ay.mem0 al) B x (az.mem0 al) C y (a0.mem0 al) D z (a3.mem0 al) 1048576 en).mono ?_)
 rintro e_ a6 ⟨rfl, dk⟩
 have aj := al.call0 dk
 refine ⟨_, rfl, ?_⟩
 refine wR 1 [(1, iv m), (2, pB o 0), (5, iv dh)] a6 (W_nil (N_then (G_seq (G_seq (G_region (wR 2 [(1, iv m), (2, pB o 0), (20, .bool (decide (dh < 0)))] a6 (W_nil (N_then ?_))))))))
 rcases gx_bif hm with ⟨b1, hm⟩ | ⟨b1, hm⟩
 ·refine gT b1 (G_seq (G_region (wR 1 [(4, .bool true)] a6 (W_nil (N_then (G_ret (N_then_ret ?_)))))))
  obtain rfl := Option.some.inj hm
  exact N_ret [.bool true] (rC RVs_nil) (⟨rfl, aj.pk []⟩)
 refine gF b1 (G_skip (N_then (G_seq (G_region (wV (.agg #[.slice A b.Routes.length u, .slice B b.Enabled.length x, .slice C b.Raised.length y, .slice D b.Cpus.length z]) a6 (eL true 4 0 (aj.blk 0 rfl)) ?_)))))
 obtain ⟨af, eo, hm⟩ := gx_bind hm
 refine wC 14 #[.agg #[.slice A b.Routes.length u, .slice B b.Enabled.length x, .slice C b.Raised.length y, .slice D b.Cpus.length z]] ((c_l_toMachine a6 b A u (ay.mem0 aj) B x (az.mem0 aj) C y (a0.mem0 aj) D z (a3.mem0 aj) eo).mono ?_)
 rintro e_ di ⟨cs, br, fr, ct, bs, fs, cu, bt, ft, cv, bu, fu, fv, rfl, eb, ec, ed, ee, dl⟩
 have au := aj.call dl
 refine ⟨_, rfl, ?_⟩
 refine wR 1 [(1, iv m), (2, pB o 0), (23, .agg #[.slice cs af.Routes.length br, .slice ct af.Enabled.length bs, .slice cu af.Raised.length bt, .slice cv af.Cpus.length bu]), (24, iv m)] di ?_
 obtain ⟨c, ep, hm⟩ := gx_bind hm
 refine wC 25 #[.agg #[.slice cs af.Routes.length br, .slice ct af.Enabled.length bs, .slice cu af.Raised.length bt, .slice cv af.Cpus.length bu], iv m] ((c_s_PendingOn di af cs br (eb.rd au 1 (by kernel_rfl)) ct bs (ec.rd au 2 (by kernel_rfl)) cu bt (ed.rd au 3 (by kernel_rfl)) cv bu (ee.rd au 4 (by kernel_rfl) 5 (by kernel_rfl)) m ep).mono ?_)
 rintro e_ c0 ⟨t, q, a4, rfl, ci, dm⟩
 have am := au.call dm
 refine ⟨_, rfl, ?_⟩
 refine wR 5 [(1, iv m), (2, pB o 0), (6, .slice t c.1.length q), (7, .bool c.2)] c0 (W_nil (N_then (G_seq (G_region (wV (.agg #[.slice A b.Routes.length u, .slice B b.Enabled.length x, .slice C b.Raised.length y, .slice D b.Cpus.length z]) c0 (eL true 4 0 (am.blk 0 rfl)) ?_)))))
 obtain ⟨d, er, hm⟩ := gx_bind hm
 refine wC 14 #[.agg #[.slice A b.Routes.length u, .slice B b.Enabled.length x, .slice C b.Raised.length y, .slice D b.Cpus.length z]] ((c_l_toMachine c0 b A u (ay.mem0 am) B x (az.mem0 am) C y (a0.mem0 am) D z (a3.mem0 am) er).mono ?_)
 rintro e_ f2 ⟨J, F, bf, K, G, bg, L, H, bh, N, I, bi, bj, rfl, cj, ck, cl, cm, dn⟩
 have d1 := am.call dn
 refine ⟨_, rfl, ?_⟩
 refine wN (.cells ⟨[.slice none 0 0, .slice none 0 0, .slice none 0 0, .slice none 0 0]⟩ 32 (0, 0)) d1 ?_
 intro O f3 d2
 refine wS true 4 0 (.agg #[.slice J d.Routes.length F, .slice K d.Enabled.length G, .slice L d.Raised.length H, .slice N d.Cpus.length I]) 12 [.slice J d.Routes.length F, .slice K d.Enabled.length G, .slice L d.Raised.length H, .slice N d.Cpus.length I] d2 rfl ?_
 intro c1 an
 refine W_nil (N_then (G_seq (G_region (wV (.agg #[.slice J d.Routes.length F, .slice K d.Enabled.length G, .slice L d.Raised.length H, .slice N d.Cpus.length I]) c1 (eL true 4 0 (an.blk 12 rfl)) (wR 1 [(1, iv m), (2, pB o 0), (6, .slice t c.1.length q), (7, .bool c.2), (8, pB O 0), (31, .agg #[.slice J d.Routes.length F, .slice K d.Enabled.length G, .slice L d.Raised.length H, .slice N d.Cpus.length I]), (32, iv m)] c1 ?_)))))
 obtain ⟨l, es, hm⟩ := gx_bind hm
 refine wC 26 #[.agg #[.slice J d.Routes.length F, .slice K d.Enabled.length G, .slice L d.Raised.length H, .slice N d.Cpus.length I], iv m] ((c_i_PendingOn c1 d J F (cj.rd an 7 (by kernel_rfl)) K G (ck.rd an 8 (by kernel_rfl)) L H (cl.rd an 9 (by kernel_rfl)) N I (cm.rd an 10 (by kernel_rfl) 11 (by kernel_rfl)) m es).mono ?_)
 rintro e_ c2 ⟨k, g, ao, rfl, cn, dp⟩
 have bn := an.call dp
 refine ⟨_, rfl, ?_⟩
 refine wR 5 [(1, iv m), (2, pB o 0), (6, .slice t c.1.length q), (7, .bool c.2), (8, pB O 0), (9, .slice k l.1.length g), (10, .bool l.2)] c2 (W_nil (N_then (G_seq (G_seq ?_))))
 obtain ⟨dg, ef, d8⟩ := gx_bind hm
 refine G_meet (fun a w' => Mem [] w w' [[(o, .cells ⟨[.slice A b.Routes.length u, .slice B b.Enabled.length x, .slice C b.Raised.length y, .slice D b.Cpus.length z]⟩ 26 (0, 0))], a4, bf, bg, bh, bi, bj, [(O, .cells ⟨[.slice J d.Routes.length F, .slice K d.Enabled.length G, .slice L d.Raised.length H, .slice N d.Cpus.length I]⟩ 32 (0, 0))], ao] ∧ Sat Tryz.f6.ntmps [(1, iv m), (2, pB o 0), (6, .slice t c.1.length q), (7, .bool c.2), (8, pB O 0), (9, .slice k l.1.length g), (10, .bool l.2), (44, .bool dg)] a) ?_ ?_
 ·have hm := ef
  refine G_region (wR 2 [(1, iv m), (2, pB o 0), (6, .slice t c.1.length q), (7, .bool c.2), (8, pB O 0), (9, .slice k l.1.length g), (10, .bool l.2), (36, .slice k l.1.length g), (37, .slice t c.1.length q)] c2 ?_)
  obtain ⟨e6, et, hm⟩ := gx_bind hm
  refine wC 19 #[.slice k l.1.length g, .slice t c.1.length q] ((c_l_eqIntS c2 l.1 k g (cn.rd bn 13 (by kernel_rfl)) c.1 t q (ci.rd bn 6 (by kernel_rfl)) et).mono ?_)
  rintro e_ c3 ⟨rfl, dq⟩
  have c8 := bn.call0 dq
  refine ⟨_, rfl, ?_⟩
  refine wR 2 [(1, iv m), (2, pB o 0), (6, .slice t c.1.length q), (7, .bool c.2), (8, pB O 0), (9, .slice k l.1.length g), (10, .bool l.2), (40, .bool (!e6))] c3 ?_
  rcases gx_bif hm with ⟨b2, hm⟩ | ⟨b2, hm⟩
  ·refine wK 40 true b2 (wR 4 [(1, iv m), (2, pB o 0), (6, .slice t c.1.length q), (7, .bool c.2), (8, pB O 0), (9, .slice k l.1.length g), (10, .bool l.2), (44, .bool true)] c3 (W_nil ?_))
   obtain rfl := Option.some.inj hm
   exact N_meet fun a ha => ⟨c8.pk [0, 6, 7, 8, 9, 10, 11, 12, 13], ha.s⟩
  refine wK 40 false b2 (wR 4 [(1, iv m), (2, pB o 0), (6, .slice t c.1.length q), (7, .bool c.2), (8, pB O 0), (9, .slice k l.1.length g), (10, .bool l.2), (44, .bool (!(l.2 == c.2)))] c3 (W_nil ?_))
  obtain rfl := Option.some.inj hm
  exact N_meet fun a ha => ⟨c8.pk [0, 6, 7, 8, 9, 10, 11, 12, 13], ha.s⟩
 intro fk fg ⟨c9, d5⟩
 refine N_use d5 ?_
 have hm := d8
 refine N_then ?_
 rcases gx_bif hm with ⟨b3, hm⟩ | ⟨b3, hm⟩
 ·refine gT b3 (G_seq (G_region (wR 1 [(4, .bool false)] fg (W_nil (N_then (G_ret (N_then_ret ?_)))))))
  obtain rfl := Option.some.inj hm
  exact N_ret [.bool false] (rC RVs_nil) (⟨rfl, c9.pk []⟩)
 refine gF b3 (G_skip (N_then (G_seq (G_seq ?_))))
 obtain ⟨E, eu, hm⟩ := gx_bind hm
 refine G_sub [(1, iv m), (2, pB o 0), (6, .slice t c.1.length q), (7, .bool c.2), (8, pB O 0), (9, .slice k l.1.length g), (10, .bool l.2), (44, .bool dg)] (by kernel_rfl) (G_dagL 3 [[], [], [1]] [[], [], []] [[], [], []] [[], [], []] [[], [], []] [[], [], []] (fun _ => []) (fun i => ([fun f v s => v = (.agg #[.slice J d.Routes.length F, .slice K d.Enabled.length G, .slice L d.Raised.length H, .slice N d.Cpus.length I] : Value) ∧ s = [], fun f v s => v = (.agg #[.slice A b.Routes.length u, .slice B b.Enabled.length x, .slice C b.Raised.length y, .slice D b.Cpus.length z] : Value) ∧ s = [], fun f v s => ∃ (V : Option Addr) (Q : Nat) (Z : Seg), ∃ (W : Option Addr) (S : Nat) (aa : Seg), ∃ (X : Option Addr) (T : Nat) (ab : Seg), ∃ (Y : Option Addr) (U : Nat) (ac : Seg) (ad : Seg), v = (.agg #[.slice V E.Routes.length Q, .slice W E.Enabled.length S, .slice X E.Raised.length T, .slice Y E.Cpus.length U] : Value) ∧ s = (Z ++ (aa ++ (ab ++ (ac ++ ad)))) ∧ ownS encRoute E.Routes V Q Z ∧ ownS Gx.encB E.Enabled W S aa ∧ ownS Gx.encB E.Raised X T ab ∧ ownD deepInterface E.Cpus Y U ac ad] : List ((Nat → Value) → Value → Seg → Prop)).getD i (fun _ _ _ => False)) (fun j f v => ∃ s, (fun i => ([fun f v s => v = (.agg #[.slice J d.Routes.length F, .slice K d.Enabled.length G, .slice L d.Raised.length H, .slice N d.Cpus.length I] : Value) ∧ s = [], fun f v s => v = (.agg #[.slice A b.Routes.length u, .slice B b.Enabled.length x, .slice C b.Raised.length y, .slice D b.Cpus.length z] : Value) ∧ s = [], fun f v s => ∃ (V : Option Addr) (Q : Nat) (Z : Seg), ∃ (W : Option Addr) (S : Nat) (aa : Seg), ∃ (X : Option Addr) (T : Nat) (ab : Seg), ∃ (Y : Option Addr) (U : Nat) (ac : Seg) (ad : Seg), v = (.agg #[.slice V E.Routes.length Q, .slice W E.Enabled.length S, .slice X E.Raised.length T, .slice Y E.Cpus.length U] : Value) ∧ s = (Z ++ (aa ++ (ab ++ (ac ++ ad)))) ∧ ownS encRoute E.Routes V Q Z ∧ ownS Gx.encB E.Enabled W S aa ∧ ownS Gx.encB E.Raised X T ab ∧ ownD deepInterface E.Cpus Y U ac ad] : List ((Nat → Value) → Value → Seg → Prop)).getD i (fun _ _ _ => False)) j f v s) [] [0, 2] [2] (fun _ _ _ s h => ⟨s, h⟩) (by kernel_rfl) (by kernel_rfl) (c9.preNil 3) (by kernel_rfl) (by kernel_rfl) (by kernel_rfl) (by kernel_rfl) (allOb_cons ?_ (allOb_cons ?_ (allOb_cons ?_ allOb_nil))) ?_)
 ·intro ba b0
  intro R fh da
  exact wV (.agg #[.slice J d.Routes.length F, .slice K d.Enabled.length G, .slice L d.Raised.length H, .slice N d.Cpus.length I]) fh (eL true 4 0 (da.blk 7 rfl)) (W_nil (oE (.agg #[.slice J d.Routes.length F, .slice K d.Enabled.length G, .slice L d.Raised.length H, .slice N d.Cpus.length I]) [] ⟨by kernel_rfl, rfl⟩ da))
 ·intro ba b0
  intro R fi db
  exact wV (.agg #[.slice A b.Routes.length u, .slice B b.Enabled.length x, .slice C b.Raised.length y, .slice D b.Cpus.length z]) fi (eL true 4 0 (db.blk 0 rfl)) (W_nil (oE (.agg #[.slice A b.Routes.length u, .slice B b.Enabled.length x, .slice C b.Raised.length y, .slice D b.Cpus.length z]) [] ⟨by kernel_rfl, rfl⟩ db))
 ·intro ba b0
  intro v1_ hb1_
  obtain ⟨rfl, _⟩ := hb1_
  intro R fj av
  refine wC 14 #[.agg #[.slice A b.Routes.length u, .slice B b.Enabled.length x, .slice C b.Raised.length y, .slice D b.Cpus.length z]] ((c_l_toMachine fj b A u (ay.mem0 av) B x (az.mem0 av) C y (a0.mem0 av) D z (a3.mem0 av) eu).mono ?_)
  rintro e_ f4 ⟨V, Q, Z, W, S, aa, X, T, ab, Y, U, ac, ad, rfl, co, cp, cq, cr, dr⟩
  refine ⟨_, rfl, ?_⟩
  exact W_nil (oE (.agg #[.slice V E.Routes.length Q, .slice W E.Enabled.length S, .slice X E.Raised.length T, .slice Y E.Cpus.length U]) (Z ++ (aa ++ (ab ++ (ac ++ ad)))) ⟨V, Q, Z, W, S, aa, X, T, ab, Y, U, ac, ad, rfl, rfl, co, cp, cq, cr⟩ (Mem.callMid av (dr.permF (by simp))))
 intro ba b0
 intro v0_ hb0_
 obtain ⟨rfl, _⟩ := hb0_
 intro v2_ hb2_
 obtain ⟨V, Q, Z, W, S, aa, X, T, ab, Y, U, ac, ad, rfl, hs2_, co, cp, cq, cr⟩ := hb2_
 intro c4 d3
 have P : Mem [] w c4 [[(o, .cells ⟨[.slice A b.Routes.length u, .slice B b.Enabled.length x, .slice C b.Raised.length y, .slice D b.Cpus.length z]⟩ 26 (0, 0))], a4, bf, bg, bh, bi, bj, [(O, .cells ⟨[.slice J d.Routes.length F, .slice K d.Enabled.length G, .slice L d.Raised.length H, .slice N d.Cpus.length I]⟩ 32 (0, 0))], ao, (ba 2)] := d3
 rw [hs2_] at P
 replace P : Mem [] w c4 [[(o, .cells ⟨[.slice A b.Routes.length u, .slice B b.Enabled.length x, .slice C b.Raised.length y, .slice D b.Cpus.length z]⟩ 26 (0, 0))], a4, bf, bg, bh, bi, bj, [(O, .cells ⟨[.slice J d.Routes.length F, .slice K d.Enabled.length G, .slice L d.Raised.length H, .slice N d.Cpus.length I]⟩ 32 (0, 0))], ao, Z, aa, ab, ac, ad] := P.permF (by simp)
 obtain ⟨e7, ev, hm⟩ := gx_bind hm
 refine wC 16 #[.agg #[.slice J d.Routes.length F, .slice K d.Enabled.length G, .slice L d.Raised.length H, .slice N d.Cpus.length I], .agg #[.slice V E.Routes.length Q, .slice W E.Enabled.length S, .slice X E.Raised.length T, .slice Y E.Cpus.length U]] ((c_l_eqMachine c4 d J F (cj.rd P 2 (by kernel_rfl)) K G (ck.rd P 3 (by kernel_rfl)) L H (cl.rd P 4 (by kernel_rfl)) N I (cm.rd P 5 (by kernel_rfl) 6 (by kernel_rfl)) E V Q (co.rd P 9 (by kernel_rfl)) W S (cp.rd P 10 (by kernel_rfl)) X T (cq.rd P 11 (by kernel_rfl)) Y U (cr.rd P 12 (by kernel_rfl) 13 (by kernel_rfl)) ev).mono ?_)
 rintro e_ ap ⟨rfl, ds⟩
 have aw := P.call0 ds
 refine ⟨_, rfl, ?_⟩
 refine wR 1 [(1, iv m), (2, pB o 0), (6, .slice t c.1.length q), (7, .bool c.2), (8, pB O 0), (9, .slice k l.1.length g), (10, .bool l.2), (49, .bool (!e7))] ap (W_nil (N_then ?_))
 rcases gx_bif hm with ⟨b4, hm⟩ | ⟨b4, hm⟩
 ·refine gT b4 (G_seq (G_region (wR 1 [(4, .bool false)] ap (W_nil (N_then (G_ret (N_then_ret ?_)))))))
  obtain rfl := Option.some.inj hm
  exact N_ret [.bool false] (rC RVs_nil) (⟨rfl, aw.pk []⟩)
 refine gF b4 (G_skip (N_then (G_seq (G_region (wR 1 [(1, iv m), (2, pB o 0), (6, .slice t c.1.length q), (7, .bool c.2), (8, pB O 0), (9, .slice k l.1.length g), (10, .bool l.2), (11, iv 1)] ap (W_nil (N_then (G_seq (G_region (wV (.agg #[.slice J d.Routes.length F, .slice K d.Enabled.length G, .slice L d.Raised.length H, .slice N d.Cpus.length I]) ap (eL true 4 0 (aw.blk 7 rfl)) (wR 1 [(1, iv m), (2, pB o 0), (6, .slice t c.1.length q), (7, .bool c.2), (9, .slice k l.1.length g), (10, .bool l.2), (11, iv 1), (50, .agg #[.slice J d.Routes.length F, .slice K d.Enabled.length G, .slice L d.Raised.length H, .slice N d.Cpus.length I]), (51, iv 1)] ap ?_)))))))))))
 obtain ⟨ae, ew, hm⟩ := gx_bind hm
 refine wC 20 #[.agg #[.slice J d.Routes.length F, .slice K d.Enabled.length G, .slice L d.Raised.length H, .slice N d.Cpus.length I], iv 1] ((c_l_markMachine ap d J F bf cj K G bg ck L H bh cl N I bi bj cm 1 (aw.hasPick [2, 3, 4, 5, 6]) (aw.nodupPick [2, 3, 4, 5, 6] (by kernel_rfl)) ew).mono ?_)
 rintro e_ aq ⟨fa, fb, fc, fd, fe, rfl, fn, ce, fo, cf, fp, cg, fq, ch, dt⟩
 have d4 := aw.callF' [2, 3, 4, 5, 6] [0, 1, 7, 8, 9, 10, 11, 12, 13] (by kernel_rfl) dt
 refine ⟨_, rfl, ?_⟩
 refine wX 50 (.agg #[.slice J d.Routes.length F, .slice K d.Enabled.length G, .slice L d.Raised.length H, .slice N d.Cpus.length I]) (.agg #[.slice J ae.2.1.length F, .slice K ae.2.2.1.length G, .slice L ae.2.2.2.1.length H, .slice N ae.2.2.2.2.length I]) (by first | rw [ce, cf, cg, ch] | rw [ce] | rw [cf] | rw [cg] | rw [ch]) ?_
 have a7 : Mem [] w aq [[(o, .cells ⟨[.slice A b.Routes.length u, .slice B b.Enabled.length x, .slice C b.Raised.length y, .slice D b.Cpus.length z]⟩ 26 (0, 0))], a4, [(O, .cells ⟨[.slice J ae.2.1.length F, .slice K ae.2.2.1.length G, .slice L ae.2.2.2.1.length H, .slice N ae.2.2.2.2.length I]⟩ 32 (0, 0))], ao, Z, aa, ab, ac, ad, fa, fb, fc, fd, fe] := by rw [ce, cf, cg, ch]; exact d4
 refine wR 1 [(1, iv m), (2, pB o 0), (6, .slice t c.1.length q), (7, .bool c.2), (9, .slice k l.1.length g), (10, .bool l.2), (11, iv ae.1)] aq (W_nil (N_then (G_seq (G_seq ?_))))
 obtain ⟨e4, eg, d9⟩ := gx_bind hm
 refine G_meet (fun a w' => Mem [] w w' [[(o, .cells ⟨[.slice A b.Routes.length u, .slice B b.Enabled.length x, .slice C b.Raised.length y, .slice D b.Cpus.length z]⟩ 26 (0, 0))], a4, ao] ∧ Sat Tryz.f6.ntmps [(1, iv m), (2, pB o 0), (6, .slice t c.1.length q), (7, .bool c.2), (9, .slice k l.1.length g), (65, .bool e4)] a) ?_ ?_
 ·have hm := eg
  refine G_region (wR 3 [(1, iv m), (2, pB o 0), (6, .slice t c.1.length q), (7, .bool c.2), (9, .slice k l.1.length g), (10, .bool l.2), (55, .bool (decide (ae.1 < 0)))] aq ?_)
  rcases gx_bif hm with ⟨b5, hm⟩ | ⟨b5, hm⟩
  ·refine wK 55 true b5 (wR 10 [(1, iv m), (2, pB o 0), (6, .slice t c.1.length q), (7, .bool c.2), (9, .slice k l.1.length g), (65, .bool true)] aq (W_nil ?_))
   obtain rfl := Option.some.inj hm
   exact N_meet fun a ha => ⟨a7.pk [0, 1, 3], ha.s⟩
  refine wK 55 false b5 (wR 2 [(1, iv m), (2, pB o 0), (6, .slice t c.1.length q), (7, .bool c.2), (9, .slice k l.1.length g), (10, .bool l.2), (55, .bool false), (56, .slice k l.1.length g), (57, .slice t c.1.length q)] aq ?_)
  obtain ⟨e8, ex, hm⟩ := gx_bind hm
  refine wC 19 #[.slice k l.1.length g, .slice t c.1.length q] ((c_l_eqIntS aq l.1 k g (cn.rd a7 3 (by kernel_rfl)) c.1 t q (ci.rd a7 1 (by kernel_rfl)) ex).mono ?_)
  rintro e_ c5 ⟨rfl, du⟩
  have dc := a7.call0 du
  refine ⟨_, rfl, ?_⟩
  refine wR 3 [(1, iv m), (2, pB o 0), (6, .slice t c.1.length q), (7, .bool c.2), (9, .slice k l.1.length g), (10, .bool l.2), (61, .bool (!e8))] c5 ?_
  rcases gx_bif hm with ⟨b6, hm⟩ | ⟨b6, hm⟩
  ·refine wK 61 true b6 (wR 4 [(1, iv m), (2, pB o 0), (6, .slice t c.1.length q), (7, .bool c.2), (9, .slice k l.1.length g), (65, .bool true)] c5 (W_nil ?_))
   obtain rfl := Option.some.inj hm
   exact N_meet fun a ha => ⟨dc.pk [0, 1, 3], ha.s⟩
  refine wK 61 false b6 (wR 4 [(1, iv m), (2, pB o 0), (6, .slice t c.1.length q), (7, .bool c.2), (9, .slice k l.1.length g), (65, .bool (!(l.2 == c.2)))] c5 (W_nil ?_))
  obtain rfl := Option.some.inj hm
  exact N_meet fun a ha => ⟨dc.pk [0, 1, 3], ha.s⟩
 intro fl bk ⟨a8, d6⟩
 refine N_use d6 ?_
 have hm := d9
 refine N_then ?_
 rcases gx_bif hm with ⟨b7, hm⟩ | ⟨b7, hm⟩
 ·refine gT b7 (G_seq (G_region (wR 1 [(4, .bool false)] bk (W_nil (N_then (G_ret (N_then_ret ?_)))))))
  obtain rfl := Option.some.inj hm
  exact N_ret [.bool false] (rC RVs_nil) (⟨rfl, a8.pk []⟩)
 refine gF b7 (G_skip (N_then (G_seq (G_region (wR 1 [(1, iv m), (2, pB o 0), (6, .slice t c.1.length q), (7, .bool c.2), (9, .slice k l.1.length g), (12, iv 1)] bk (W_nil (N_then (G_seq (G_region (wR 2 [(1, iv m), (2, pB o 0), (6, .slice t c.1.length q), (7, .bool c.2), (9, .slice k l.1.length g), (12, iv 1), (66, .slice k l.1.length g), (67, iv 1)] bk ?_))))))))))
 obtain ⟨n, ey, hm⟩ := gx_bind hm
 refine wC 21 #[.slice k l.1.length g, iv 1] ((c_l_markIntS bk l.1 k g ao cn 1 (a8.hasPick [2]) (a8.nodupPick [2] (by kernel_rfl)) ey).mono ?_)
 rintro e_ bl ⟨ff, rfl, df, bb, dv⟩
 have dd := a8.callF' [2] [0, 1] (by kernel_rfl) dv
 refine ⟨_, rfl, ?_⟩
 refine wX 9 (.slice k l.1.length g) (.slice k n.2.length g) (by first | rw [bb] | rw [bb]) (wX 66 (.slice k l.1.length g) (.slice k n.2.length g) (by first | rw [bb] | rw [bb]) (wR 1 [(1, iv m), (2, pB o 0), (6, .slice t c.1.length q), (7, .bool c.2), (9, .slice k n.2.length g), (12, iv n.1)] bl (W_nil (N_then (G_seq (G_region (wR 1 [(1, iv m), (2, pB o 0), (6, .slice t c.1.length q), (7, .bool c.2), (9, .slice k n.2.length g), (12, iv n.1), (13, iv 1)] bl (W_nil (N_then (G_seq (G_region (wR 2 [(1, iv m), (2, pB o 0), (6, .slice t c.1.length q), (7, .bool c.2), (9, .slice k n.2.length g), (12, iv n.1), (13, iv 1), (69, .slice k n.2.length g), (70, iv 1)] bl ?_))))))))))))
 obtain ⟨bd, ez, hm⟩ := gx_bind hm
 refine wC 22 #[.slice k n.2.length g, iv 1] ((c_l_heldIntS bl n.2 k g (df.rd dd 2 (by kernel_rfl)) 1 ez).mono ?_)
 rintro e_ ak ⟨rfl, dw⟩
 have ah := dd.call0 dw
 refine ⟨_, rfl, ?_⟩
 refine wR 1 [(1, iv m), (2, pB o 0), (6, .slice t c.1.length q), (7, .bool c.2), (9, .slice k n.2.length g), (12, iv n.1), (13, iv bd)] ak (W_nil (N_then (G_seq (G_seq (G_region (wR 2 [(1, iv m), (2, pB o 0), (6, .slice t c.1.length q), (7, .bool c.2), (9, .slice k n.2.length g), (12, iv n.1), (13, iv bd), (73, .bool (decide (bd < 0)))] ak (W_nil (N_then ?_))))))))
 rcases gx_bif hm with ⟨b8, hm⟩ | ⟨b8, hm⟩
 ·refine gT b8 (G_seq (G_region (wR 1 [(4, .bool false)] ak (W_nil (N_then (G_ret (N_then_ret ?_)))))))
  obtain rfl := Option.some.inj hm
  exact N_ret [.bool false] (rC RVs_nil) (⟨rfl, ah.pk []⟩)
 refine gF b8 (G_skip (N_then (G_seq (G_seq (G_region (wR 3 [(1, iv m), (2, pB o 0), (6, .slice t c.1.length q), (7, .bool c.2), (9, .slice k n.2.length g), (12, iv n.1), (76, .bool (bd != n.1))] ak (W_nil (N_then ?_))))))))
 rcases gx_bif hm with ⟨b9, hm⟩ | ⟨b9, hm⟩
 ·refine gT b9 (G_seq (G_region (wR 1 [(4, .bool false)] ak (W_nil (N_then (G_ret (N_then_ret ?_)))))))
  obtain rfl := Option.some.inj hm
  exact N_ret [.bool false] (rC RVs_nil) (⟨rfl, ah.pk []⟩)
 refine gF b9 (G_skip (N_then (G_seq (G_region (wV (.agg #[.slice A b.Routes.length u, .slice B b.Enabled.length x, .slice C b.Raised.length y, .slice D b.Cpus.length z]) ak (eL true 4 0 (ah.blk 0 rfl)) ?_)))))
 obtain ⟨ag, e0, hm⟩ := gx_bind hm
 refine wC 14 #[.agg #[.slice A b.Routes.length u, .slice B b.Enabled.length x, .slice C b.Raised.length y, .slice D b.Cpus.length z]] ((c_l_toMachine ak b A u (ay.mem0 ah) B x (az.mem0 ah) C y (a0.mem0 ah) D z (a3.mem0 ah) e0).mono ?_)
 rintro e_ dj ⟨cw, bv, fw, cx, bw, fx, cy, bx, fy, cz, bz, fz, f0, rfl, eh, ei, ej, ek, dx⟩
 have ax := ah.call dx
 refine ⟨_, rfl, ?_⟩
 refine wR 1 [(6, .slice t c.1.length q), (7, .bool c.2), (9, .slice k n.2.length g), (12, iv n.1), (79, .agg #[.slice cw ag.Routes.length bv, .slice cx ag.Enabled.length bw, .slice cy ag.Raised.length bx, .slice cz ag.Cpus.length bz]), (80, iv m)] dj ?_
 obtain ⟨ai, e1, hm⟩ := gx_bind hm
 refine wC 26 #[.agg #[.slice cw ag.Routes.length bv, .slice cx ag.Enabled.length bw, .slice cy ag.Raised.length bx, .slice cz ag.Cpus.length bz], iv m] ((c_i_PendingOn dj ag cw bv (eh.rd ax 3 (by kernel_rfl)) cx bw (ei.rd ax 4 (by kernel_rfl)) cy bx (ej.rd ax 5 (by kernel_rfl)) cz bz (ek.rd ax 6 (by kernel_rfl) 7 (by kernel_rfl)) m e1).mono ?_)
 rintro e_ c6 ⟨bc, a9, f1, rfl, el, dy⟩
 have bo := ax.call dy
 refine ⟨_, rfl, ?_⟩
 refine wR 5 [(6, .slice t c.1.length q), (7, .bool c.2), (9, .slice k n.2.length g), (12, iv n.1), (14, .slice bc ai.1.length a9), (15, .bool ai.2)] c6 (W_nil (N_then (G_seq (G_seq ?_))))
 obtain ⟨e5, em, ea⟩ := gx_bind hm
 refine G_meet (fun a w' => Mem [] w w' [ff] ∧ Sat Tryz.f6.ntmps [(9, .slice k n.2.length g), (12, iv n.1), (92, .bool e5)] a) ?_ ?_
 ·have hm := em
  refine G_region (wR 2 [(7, .bool c.2), (9, .slice k n.2.length g), (12, iv n.1), (15, .bool ai.2), (84, .slice bc ai.1.length a9), (85, .slice t c.1.length q)] c6 ?_)
  obtain ⟨e9, e2, hm⟩ := gx_bind hm
  refine wC 19 #[.slice bc ai.1.length a9, .slice t c.1.length q] ((c_l_eqIntS c6 ai.1 bc a9 (el.rd bo 8 (by kernel_rfl)) c.1 t q (ci.rd bo 1 (by kernel_rfl)) e2).mono ?_)
  rintro e_ c7 ⟨rfl, dz⟩
  have de := bo.call0 dz
  refine ⟨_, rfl, ?_⟩
  refine wR 2 [(7, .bool c.2), (9, .slice k n.2.length g), (12, iv n.1), (15, .bool ai.2), (88, .bool (!e9))] c7 ?_
  rcases gx_bif hm with ⟨ca, hm⟩ | ⟨ca, hm⟩
  ·refine wK 88 true ca (wR 4 [(9, .slice k n.2.length g), (12, iv n.1), (92, .bool true)] c7 (W_nil ?_))
   obtain rfl := Option.some.inj hm
   exact N_meet fun a ha => ⟨de.pk [2], ha.s⟩
  refine wK 88 false ca (wR 4 [(9, .slice k n.2.length g), (12, iv n.1), (92, .bool (!(ai.2 == c.2)))] c7 (W_nil ?_))
  obtain rfl := Option.some.inj hm
  exact N_meet fun a ha => ⟨de.pk [2], ha.s⟩
 intro fm bm ⟨bp, d7⟩
 refine N_use d7 ?_
 have hm := ea
 refine N_then ?_
 rcases gx_bif hm with ⟨cb, hm⟩ | ⟨cb, hm⟩
 ·refine gT cb (G_seq (G_region (wR 1 [(4, .bool false)] bm (W_nil (N_then (G_ret (N_then_ret ?_)))))))
  obtain rfl := Option.some.inj hm
  exact N_ret [.bool false] (rC RVs_nil) (⟨rfl, bp.pk []⟩)
 refine gF cb (G_skip (N_then (G_seq (G_region (wR 1 [(9, .slice k n.2.length g), (12, iv n.1), (13, iv 1)] bm (W_nil (N_then (G_seq (G_region (wR 2 [(12, iv n.1), (13, iv 1), (93, .slice k n.2.length g), (94, iv 1)] bm ?_))))))))))
 obtain ⟨be, e3, hm⟩ := gx_bind hm
 refine wC 22 #[.slice k n.2.length g, iv 1] ((c_l_heldIntS bm n.2 k g (df.rd bp 0 (by kernel_rfl)) 1 e3).mono ?_)
 rintro e_ ar ⟨rfl, d0⟩
 have bq := bp.call0 d0
 refine ⟨_, rfl, ?_⟩
 refine wR 1 [(12, iv n.1), (13, iv be)] ar (W_nil (N_then (G_seq (G_seq (G_region (wR 2 [(12, iv n.1), (13, iv be), (97, .bool (decide (be < 0)))] ar (W_nil (N_then ?_))))))))
 rcases gx_bif hm with ⟨cc, hm⟩ | ⟨cc, hm⟩
 ·refine gT cc (G_seq (G_region (wR 1 [(4, .bool false)] ar (W_nil (N_then (G_ret (N_then_ret ?_)))))))
  obtain rfl := Option.some.inj hm
  exact N_ret [.bool false] (rC RVs_nil) (⟨rfl, bq.pk []⟩)
 refine gF cc (G_skip (N_then (G_seq (G_seq (G_region (wR 3 [(100, .bool (be != n.1))] ar (W_nil (N_then ?_))))))))
 rcases gx_bif hm with ⟨cd, hm⟩ | ⟨cd, hm⟩
 ·refine gT cd (G_seq (G_region (wR 1 [(4, .bool false)] ar (W_nil (N_then (G_ret (N_then_ret ?_)))))))
  obtain rfl := Option.some.inj hm
  exact N_ret [.bool false] (rC RVs_nil) (⟨rfl, bq.pk []⟩)
 refine gF cd (G_skip (N_then (G_seq (G_region (wR 1 [(4, .bool true)] ar (W_nil (N_then (G_ret ?_))))))))
 obtain rfl := Option.some.inj hm
 exact N_ret [.bool true] (rC RVs_nil) (⟨rfl, bq.pk []⟩)
theorem c_s_l9Own (w : World) (a : Queue) (y : Option Addr) (q : Nat) (aj : rdS encSlot w a.Slots y q) (z : Option Addr) (t : Nat) (ak : rdS encWaiter w a.Waiting z t) {r : Queue} (hm : M.s_l9Own a = some r) :
  Calls Tryz.prog 183 #[.agg #[.slice y a.Slots.length q, .slice z a.Waiting.length t]] w fun e w' => ∃ (U : Option Addr) (S : Nat) (W : Seg), ∃ (V : Option Addr) (T : Nat) (X : Seg), e = .returned (.agg #[.slice U r.Slots.length S, .slice V r.Waiting.length T]) ∧ ownS encSlot r.Slots U S W ∧ ownS encWaiter r.Waiting V T X ∧ Mem [] w w' [W, X] := by
 unfold M.s_l9Own at hm
 refine cE Tryz.func183 ?_
 have M0 := Mem.refl [] w
 refine G_seq (G_region (wN (.cells ⟨[.slice y a.Slots.length q, .slice z a.Waiting.length t]⟩ 85 (0, 0)) M0 ?_))
 intro m a0 Y
 refine wN (.cells ⟨[.slice none 0 0, .slice none 0 0]⟩ 85 (0, 0)) Y ?_
 intro H a3 Z
 refine W_nil (N_then (G_seq ?_))
 obtain ⟨l, al, hm⟩ := gx_bind hm
 refine G_sub [(0, .agg #[.slice y a.Slots.length q, .slice z a.Waiting.length t]), (1, pB m 0), (2, pB H 0)] (by kernel_rfl) (G_dagL 7 [[], [], [1], [0, 2], [], [], [5]] [[], [], [], [0], [], [], []] [[], [], [], [], [], [], []] [[], [], [], [], [], [], []] [[], [], [], [], [], [], []] [[], [], [], [], [], [], []] (fun _ => []) (fun i => ([fun f v s => ∃ (A : Option Addr) (u : Nat), v = (.slice A ([] : List Slot).length u : Value) ∧ ownS encSlot ([] : List Slot) A u s, fun f v s => v = (pB m 0 : Value) ∧ s = [], fun f v s => v = (.slice y a.Slots.length q : Value) ∧ s = [], fun f v s => ∃ (d : Option Addr) (c : Nat), v = (.slice d l.length c : Value) ∧ ownS encSlot l d c s, fun f v s => ∃ (B : Option Addr) (x : Nat), v = (.slice B ([] : List Waiter).length x : Value) ∧ ownS encWaiter ([] : List Waiter) B x s, fun f v s => v = (pB m 1 : Value) ∧ s = [], fun f v s => v = (.slice z a.Waiting.length t : Value) ∧ s = []] : List ((Nat → Value) → Value → Seg → Prop)).getD i (fun _ _ _ => False)) (fun j f v => ∃ s, (fun i => ([fun f v s => ∃ (A : Option Addr) (u : Nat), v = (.slice A ([] : List Slot).length u : Value) ∧ ownS encSlot ([] : List Slot) A u s, fun f v s => v = (pB m 0 : Value) ∧ s = [], fun f v s => v = (.slice y a.Slots.length q : Value) ∧ s = [], fun f v s => ∃ (d : Option Addr) (c : Nat), v = (.slice d l.length c : Value) ∧ ownS encSlot l d c s, fun f v s => ∃ (B : Option Addr) (x : Nat), v = (.slice B ([] : List Waiter).length x : Value) ∧ ownS encWaiter ([] : List Waiter) B x s, fun f v s => v = (pB m 1 : Value) ∧ s = [], fun f v s => v = (.slice z a.Waiting.length t : Value) ∧ s = []] : List ((Nat → Value) → Value → Seg → Prop)).getD i (fun _ _ _ => False)) j f v s) [] [3, 4, 6] [3, 4] (fun _ _ _ s h => ⟨s, h⟩) (by kernel_rfl) (by kernel_rfl) (Z.preNil 7) (by kernel_rfl) (by kernel_rfl) (by kernel_rfl) (by kernel_rfl) (allOb_cons ?_ (allOb_cons ?_ (allOb_cons ?_ (allOb_cons ?_ (allOb_cons ?_ (allOb_cons ?_ (allOb_cons ?_ allOb_nil))))))) ?_)
 ·intro n G
  intro R a4 aa
  refine wL (E := encSlot) ([] : List Slot) 0 [] 117 aa ?_
  intro A u ao a5 I ab
  exact W_nil (oE (.slice A ([] : List Slot).length u) ao ⟨A, u, rfl, I⟩ (Mem.mid ab))
 ·intro n G
  intro R au ac
  exact wR 1 [(4, pB m 0)] au (W_nil (oE (pB m 0) [] ⟨by kernel_rfl, rfl⟩ ac))
 ·intro n G
  intro v1_ hb1_
  obtain ⟨rfl, _⟩ := hb1_
  intro R av L
  exact wV (.slice y a.Slots.length q) av (eL false 1 0 (L.blk 0 rfl)) (W_nil (oE (.slice y a.Slots.length q) [] ⟨by kernel_rfl, rfl⟩ L))
 ·intro n G
  intro v0_ hb0_
  obtain ⟨A, u, rfl, I⟩ := hb0_
  intro v2_ hb2_
  obtain ⟨rfl, _⟩ := hb2_
  intro R a6 N
  refine wA 24 [iv 0, iv 0, iv 0] 3 N I (aj.mem0 N) al ?_
  intro d c ap a7 J ad
  exact W_nil (oE (.slice d l.length c) ap ⟨d, c, rfl, J⟩ (Mem.takeOver ad))
 ·intro n G
  intro R a8 ae
  refine wL (E := encWaiter) ([] : List Waiter) 0 [] 142 ae ?_
  intro B x aq a9 K af
  exact W_nil (oE (.slice B ([] : List Waiter).length x) aq ⟨B, x, rfl, K⟩ (Mem.mid af))
 ·intro n G
  intro R aw ag
  exact wR 1 [(8, pB m 1)] aw (W_nil (oE (pB m 1) [] ⟨by kernel_rfl, rfl⟩ ag))
 ·intro n G
  intro v5_ hb5_
  obtain ⟨rfl, _⟩ := hb5_
  intro R ax O
  exact wV (.slice z a.Waiting.length t) ax (eL false 1 1 (O.blk 0 rfl)) (W_nil (oE (.slice z a.Waiting.length t) [] ⟨by kernel_rfl, rfl⟩ O))
 intro n G
 intro v3_ hb3_
 obtain ⟨d, c, rfl, J⟩ := hb3_
 intro v4_ hb4_
 obtain ⟨B, x, rfl, K⟩ := hb4_
 intro v6_ hb6_
 obtain ⟨rfl, _⟩ := hb6_
 intro ay ah
 have P : Mem [] w ay [[(m, .cells ⟨[.slice y a.Slots.length q, .slice z a.Waiting.length t]⟩ 85 (0, 0))], [(H, .cells ⟨[.slice none 0 0, .slice none 0 0]⟩ 85 (0, 0))], (n 3), (n 4)] := ah
 obtain ⟨F, am, hm⟩ := gx_bind hm
 refine wA 16 [iv 0, iv 0] 3 P K (ak.mem0 P) am ?_
 intro D C ar az an ai
 refine wR 1 [(2, pB H 0), (11, .agg #[.slice d l.length c, .slice D F.length C])] az (wS true 2 0 (.agg #[.slice d l.length c, .slice D F.length C]) 1 [.slice d l.length c, .slice D F.length C] ai rfl ?_)
 intro ba Q
 refine W_nil (N_then (G_ret ?_))
 obtain rfl := Option.some.inj hm
 exact N_ret [.agg #[.slice d l.length c, .slice D F.length C]] (RVs_cons (RV_cell (g := true) (k := 2) (b := H) (off := 0) (cs := [.slice d l.length c, .slice D F.length C]) (e := 85) (fr := (0, 0)) (v := .agg #[.slice d l.length c, .slice D F.length C]) (Q.blk 1 (b := H) (o := .cells ⟨[.slice d l.length c, .slice D F.length C]⟩ 85 (0, 0)) (by kernel_rfl)) (by kernel_rfl) (by kernel_rfl) (by kernel_rfl)) RVs_nil) (⟨d, c, (n 3), D, C, ar, rfl, J, an, Q.pk [2, 3]⟩)
theorem c_s_l10Own (w : World) (a : Interface) (B : Option Addr) (x : Nat) (an : rdS Gx.encI w a.Stack B x) (C : Option Addr) (y : Nat) (ao : rdS encSlot w a.Queue.Slots C y) (D : Option Addr) (z : Nat) (ap : rdS encWaiter w a.Queue.Waiting D z) {r : Interface} (hm : M.s_l10Own a = some r) :
  Calls Tryz.prog 145 #[.agg #[iv a.Mask, .slice B a.Stack.length x, .slice C a.Queue.Slots.length y, .slice D a.Queue.Waiting.length z]] w fun e w' => ∃ (Z : Option Addr) (W : Nat) (ac : Seg), ∃ (aa : Option Addr) (X : Nat) (ad : Seg), ∃ (ab : Option Addr) (Y : Nat) (ae : Seg), e = .returned (.agg #[iv r.Mask, .slice Z r.Stack.length W, .slice aa r.Queue.Slots.length X, .slice ab r.Queue.Waiting.length Y]) ∧ ownS Gx.encI r.Stack Z W ac ∧ ownS encSlot r.Queue.Slots aa X ad ∧ ownS encWaiter r.Queue.Waiting ab Y ae ∧ Mem [] w w' [ac, ad, ae] := by
 unfold M.s_l10Own at hm
 refine cE Tryz.func145 ?_
 have M0 := Mem.refl [] w
 refine G_seq (G_region (wN (.cells ⟨[iv a.Mask, .slice B a.Stack.length x, .slice C a.Queue.Slots.length y, .slice D a.Queue.Waiting.length z]⟩ 87 (0, 0)) M0 ?_))
 intro u a5 ah
 refine wN (.cells ⟨[iv 0, .slice none 0 0, .slice none 0 0, .slice none 0 0]⟩ 87 (0, 0)) ah ?_
 intro I a6 ai
 refine W_nil (N_then (G_seq ?_))
 obtain ⟨E, aq, hm⟩ := gx_bind hm
 obtain ⟨c, ar, hm⟩ := gx_bind hm
 refine G_sub [(0, .agg #[iv a.Mask, .slice B a.Stack.length x, .slice C a.Queue.Slots.length y, .slice D a.Queue.Waiting.length z]), (1, pB u 0), (2, pB I 0)] (by kernel_rfl) (G_dagL 8 [[], [0], [], [2], [3], [], [5], [6]] [[], [], [], [], [], [], [], []] [[], [], [], [], [], [], [], []] [[], [], [], [], [], [], [], []] [[], [], [], [], [], [], [], []] [[], [], [], [], [], [], [], []] (fun _ => []) (fun i => ([fun f v s => v = (pB u 0 : Value) ∧ s = [], fun f v s => v = (iv a.Mask : Value) ∧ s = [], fun f v s => v = (pB u 1 : Value) ∧ s = [], fun f v s => v = (.slice B a.Stack.length x : Value) ∧ s = [], fun f v s => ∃ (n : Option Addr) (d : Nat), v = (.slice n E.length d : Value) ∧ ownS Gx.encI E n d s, fun f v s => v = (pB u 2 : Value) ∧ s = [], fun f v s => v = (.agg #[.slice C a.Queue.Slots.length y, .slice D a.Queue.Waiting.length z] : Value) ∧ s = [], fun f v s => ∃ (q : Option Addr) (l : Nat) (F : Seg), ∃ (t : Option Addr) (m : Nat) (G : Seg), v = (.agg #[.slice q c.Slots.length l, .slice t c.Waiting.length m] : Value) ∧ s = (F ++ G) ∧ ownS encSlot c.Slots q l F ∧ ownS encWaiter c.Waiting t m G] : List ((Nat → Value) → Value → Seg → Prop)).getD i (fun _ _ _ => False)) (fun j f v => ∃ s, (fun i => ([fun f v s => v = (pB u 0 : Value) ∧ s = [], fun f v s => v = (iv a.Mask : Value) ∧ s = [], fun f v s => v = (pB u 1 : Value) ∧ s = [], fun f v s => v = (.slice B a.Stack.length x : Value) ∧ s = [], fun f v s => ∃ (n : Option Addr) (d : Nat), v = (.slice n E.length d : Value) ∧ ownS Gx.encI E n d s, fun f v s => v = (pB u 2 : Value) ∧ s = [], fun f v s => v = (.agg #[.slice C a.Queue.Slots.length y, .slice D a.Queue.Waiting.length z] : Value) ∧ s = [], fun f v s => ∃ (q : Option Addr) (l : Nat) (F : Seg), ∃ (t : Option Addr) (m : Nat) (G : Seg), v = (.agg #[.slice q c.Slots.length l, .slice t c.Waiting.length m] : Value) ∧ s = (F ++ G) ∧ ownS encSlot c.Slots q l F ∧ ownS encWaiter c.Waiting t m G] : List ((Nat → Value) → Value → Seg → Prop)).getD i (fun _ _ _ => False)) j f v s) [] [1, 4, 7] [4, 7] (fun _ _ _ s h => ⟨s, h⟩) (by kernel_rfl) (by kernel_rfl) (ai.preNil 8) (by kernel_rfl) (by kernel_rfl) (by kernel_rfl) (by kernel_rfl) (allOb_cons ?_ (allOb_cons ?_ (allOb_cons ?_ (allOb_cons ?_ (allOb_cons ?_ (allOb_cons ?_ (allOb_cons ?_ (allOb_cons ?_ allOb_nil)))))))) ?_)
 ·intro A H
  intro R av aj
  exact wR 1 [(3, pB u 0)] av (W_nil (oE (pB u 0) [] ⟨by kernel_rfl, rfl⟩ aj))
 ·intro A H
  intro v0_ hb0_
  obtain ⟨rfl, _⟩ := hb0_
  intro R aw Q
  exact wV (iv a.Mask) aw (eL false 1 0 (Q.blk 0 rfl)) (W_nil (oE (iv a.Mask) [] ⟨by kernel_rfl, rfl⟩ Q))
 ·intro A H
  intro R ax ak
  exact wR 1 [(5, pB u 1)] ax (W_nil (oE (pB u 1) [] ⟨by kernel_rfl, rfl⟩ ak))
 ·intro A H
  intro v2_ hb2_
  obtain ⟨rfl, _⟩ := hb2_
  intro R ay S
  exact wV (.slice B a.Stack.length x) ay (eL false 1 1 (S.blk 0 rfl)) (W_nil (oE (.slice B a.Stack.length x) [] ⟨by kernel_rfl, rfl⟩ S))
 ·intro A H
  intro v3_ hb3_
  obtain ⟨rfl, _⟩ := hb3_
  intro R az T
  refine wC 65 #[.slice B a.Stack.length x] ((c_s_l1Own az a.Stack B x (an.mem0 T) aq).mono ?_)
  rintro e_ a7 ⟨n, d, au, rfl, L, af⟩
  refine ⟨_, rfl, ?_⟩
  exact W_nil (oE (.slice n E.length d) au ⟨n, d, rfl, L⟩ (Mem.callMid T af))
 ·intro A H
  intro R a0 al
  exact wR 1 [(8, pB u 2)] a0 (W_nil (oE (pB u 2) [] ⟨by kernel_rfl, rfl⟩ al))
 ·intro A H
  intro v5_ hb5_
  obtain ⟨rfl, _⟩ := hb5_
  intro R a3 U
  exact wV (.agg #[.slice C a.Queue.Slots.length y, .slice D a.Queue.Waiting.length z]) a3 (eL true 2 2 (U.blk 0 rfl)) (W_nil (oE (.agg #[.slice C a.Queue.Slots.length y, .slice D a.Queue.Waiting.length z]) [] ⟨by kernel_rfl, rfl⟩ U))
 ·intro A H
  intro v6_ hb6_
  obtain ⟨rfl, _⟩ := hb6_
  intro R a4 K
  refine wC 183 #[.agg #[.slice C a.Queue.Slots.length y, .slice D a.Queue.Waiting.length z]] ((c_s_l9Own a4 (⟨a.Queue.Slots, a.Queue.Waiting⟩ : Queue) C y (ao.mem0 K) D z (ap.mem0 K) ar).mono ?_)
  rintro e_ a8 ⟨q, l, F, t, m, G, rfl, N, O, ag⟩
  refine ⟨_, rfl, ?_⟩
  exact W_nil (oE (.agg #[.slice q c.Slots.length l, .slice t c.Waiting.length m]) (F ++ G) ⟨q, l, F, t, m, G, rfl, rfl, N, O⟩ (Mem.callMid K (ag.permF (by simp))))
 intro A H
 intro v1_ hb1_
 obtain ⟨rfl, _⟩ := hb1_
 intro v4_ hb4_
 obtain ⟨n, d, rfl, L⟩ := hb4_
 intro v7_ hb7_
 obtain ⟨q, l, F, t, m, G, rfl, hs7_, N, O⟩ := hb7_
 intro P am
 have J : Mem [] w P [[(u, .cells ⟨[iv a.Mask, .slice B a.Stack.length x, .slice C a.Queue.Slots.length y, .slice D a.Queue.Waiting.length z]⟩ 87 (0, 0))], [(I, .cells ⟨[iv 0, .slice none 0 0, .slice none 0 0, .slice none 0 0]⟩ 87 (0, 0))], (A 4), (A 7)] := am
 rw [hs7_] at J
 replace J : Mem [] w P [[(u, .cells ⟨[iv a.Mask, .slice B a.Stack.length x, .slice C a.Queue.Slots.length y, .slice D a.Queue.Waiting.length z]⟩ 87 (0, 0))], [(I, .cells ⟨[iv 0, .slice none 0 0, .slice none 0 0, .slice none 0 0]⟩ 87 (0, 0))], (A 4), F, G] := J.permF (by simp)
 refine wR 1 [(2, pB I 0), (11, .agg #[iv a.Mask, .slice n E.length d, .slice q c.Slots.length l, .slice t c.Waiting.length m])] P (wS true 4 0 (.agg #[iv a.Mask, .slice n E.length d, .slice q c.Slots.length l, .slice t c.Waiting.length m]) 1 [iv a.Mask, .slice n E.length d, .slice q c.Slots.length l, .slice t c.Waiting.length m] J rfl ?_)
 intro a9 V
 refine W_nil (N_then (G_ret ?_))
 obtain rfl := Option.some.inj hm
 exact N_ret [.agg #[iv a.Mask, .slice n E.length d, .slice q c.Slots.length l, .slice t c.Waiting.length m]] (RVs_cons (RV_cell (g := true) (k := 4) (b := I) (off := 0) (cs := [iv a.Mask, .slice n E.length d, .slice q c.Slots.length l, .slice t c.Waiting.length m]) (e := 87) (fr := (0, 0)) (v := .agg #[iv a.Mask, .slice n E.length d, .slice q c.Slots.length l, .slice t c.Waiting.length m]) (V.blk 1 (b := I) (o := .cells ⟨[iv a.Mask, .slice n E.length d, .slice q c.Slots.length l, .slice t c.Waiting.length m]⟩ 87 (0, 0)) (by kernel_rfl)) (by kernel_rfl) (by kernel_rfl) (by kernel_rfl)) RVs_nil) (⟨n, d, (A 4), q, l, F, t, m, G, rfl, L, N, O, V.pk [2, 3, 4]⟩)
theorem c_s_l21Own (w : World) (c : Machine) (Q : Option Addr) (N : Nat) (dq : rdS encRoute w c.Routes Q N) (S : Option Addr) (O : Nat) (dr : rdS Gx.encB w c.Enabled S O) (T : Option Addr) (P : Nat) (ds : rdS Gx.encB w c.Raised T P) (J : Option Addr) (L : Nat) (dt : rdD deepInterface w c.Cpus J L) {r : Machine} (hm : M.s_l21Own c = some r) :
  Calls Tryz.prog 88 #[.agg #[.slice Q c.Routes.length N, .slice S c.Enabled.length O, .slice T c.Raised.length P, .slice J c.Cpus.length L]] w fun e w' => ∃ (cg : Option Addr) (b9 : Nat) (ck : Seg), ∃ (ch : Option Addr) (ca : Nat) (cl : Seg), ∃ (ci : Option Addr) (cb : Nat) (cm : Seg), ∃ (cj : Option Addr) (cc : Nat) (cn : Seg) (co : Seg), e = .returned (.agg #[.slice cg r.Routes.length b9, .slice ch r.Enabled.length ca, .slice ci r.Raised.length cb, .slice cj r.Cpus.length cc]) ∧ ownS encRoute r.Routes cg b9 ck ∧ ownS Gx.encB r.Enabled ch ca cl ∧ ownS Gx.encB r.Raised ci cb cm ∧ ownD deepInterface r.Cpus cj cc cn co ∧ Mem [] w w' [ck, cl, cm, cn, co] := by
 unfold M.s_l21Own at hm
 refine cE Tryz.func88 ?_
 have M0 := Mem.refl [] w
 refine G_seq (G_region (wN (.cells ⟨[.slice Q c.Routes.length N, .slice S c.Enabled.length O, .slice T c.Raised.length P, .slice J c.Cpus.length L]⟩ 32 (0, 0)) M0 ?_))
 intro n e2 cu
 refine wN (.cells ⟨[.slice none 0 0, .slice none 0 0, .slice none 0 0, .slice none 0 0]⟩ 32 (0, 0)) cu ?_
 intro K e3 cv
 refine W_nil (N_then (G_seq ?_))
 obtain ⟨G, dw, hm⟩ := gx_bind hm
 obtain ⟨H, dx, hm⟩ := gx_bind hm
 obtain ⟨I, dy, hm⟩ := gx_bind hm
 refine G_sub [(0, .agg #[.slice Q c.Routes.length N, .slice S c.Enabled.length O, .slice T c.Raised.length P, .slice J c.Cpus.length L]), (1, pB n 0), (2, pB K 0)] (by kernel_rfl) (G_dagL 15 [[], [], [1], [0, 2], [], [], [5], [4, 6], [], [], [9], [8, 10], [], [], []] [[], [], [], [0], [], [], [], [4], [], [], [], [8], [], [], []] [[], [], [], [], [], [], [], [], [], [], [], [], [], [], []] [[], [], [], [], [], [], [], [], [], [], [], [], [], [3, 7, 11, 12], []] [[], [], [], [], [], [], [], [], [], [], [], [], [], [3, 7, 11, 12], []] [[], [], [], [], [], [], [], [], [], [], [], [], [], [], []] (fun _ => []) (fun i => ([fun f v s => ∃ (ax : Option Addr) (aq : Nat), v = (.slice ax ([] : List Route).length aq : Value) ∧ ownS encRoute ([] : List Route) ax aq s, fun f v s => v = (pB n 0 : Value) ∧ s = [], fun f v s => v = (.slice Q c.Routes.length N : Value) ∧ s = [], fun f v s => ∃ (y : Option Addr) (t : Nat), v = (.slice y G.length t : Value) ∧ ownS encRoute G y t s, fun f v s => ∃ (ay : Option Addr) (ar : Nat), v = (.slice ay ([] : List Bool).length ar : Value) ∧ ownS Gx.encB ([] : List Bool) ay ar s, fun f v s => v = (pB n 1 : Value) ∧ s = [], fun f v s => v = (.slice S c.Enabled.length O : Value) ∧ s = [], fun f v s => ∃ (z : Option Addr) (u : Nat), v = (.slice z H.length u : Value) ∧ ownS Gx.encB H z u s, fun f v s => ∃ (az : Option Addr) (au : Nat), v = (.slice az ([] : List Bool).length au : Value) ∧ ownS Gx.encB ([] : List Bool) az au s, fun f v s => v = (pB n 2 : Value) ∧ s = [], fun f v s => v = (.slice T c.Raised.length P : Value) ∧ s = [], fun f v s => ∃ (B : Option Addr) (x : Nat), v = (.slice B I.length x : Value) ∧ ownS Gx.encB I B x s, fun f v s => ∃ (V : Option Addr) (U : Nat) (am : Seg) (a3 : Seg), v = (.slice V ([] : List Interface).length U : Value) ∧ s = (am ++ a3) ∧ ownD deepInterface ([] : List Interface) V U am a3, fun f v s => v = (.agg #[(atPath (f 3) []), (atPath (f 7) []), (atPath (f 11) []), (atPath (f 12) [])] : Value) ∧ s = [], fun f v s => ∃ (q : Nat), v = (pB q 0 : Value) ∧ s = [(q, .cells ⟨[.slice none 0 0, .slice none 0 0, .slice none 0 0, .slice none 0 0]⟩ 32 (0, 0))]] : List ((Nat → Value) → Value → Seg → Prop)).getD i (fun _ _ _ => False)) (fun j f v => ∃ s, (fun i => ([fun f v s => ∃ (ax : Option Addr) (aq : Nat), v = (.slice ax ([] : List Route).length aq : Value) ∧ ownS encRoute ([] : List Route) ax aq s, fun f v s => v = (pB n 0 : Value) ∧ s = [], fun f v s => v = (.slice Q c.Routes.length N : Value) ∧ s = [], fun f v s => ∃ (y : Option Addr) (t : Nat), v = (.slice y G.length t : Value) ∧ ownS encRoute G y t s, fun f v s => ∃ (ay : Option Addr) (ar : Nat), v = (.slice ay ([] : List Bool).length ar : Value) ∧ ownS Gx.encB ([] : List Bool) ay ar s, fun f v s => v = (pB n 1 : Value) ∧ s = [], fun f v s => v = (.slice S c.Enabled.length O : Value) ∧ s = [], fun f v s => ∃ (z : Option Addr) (u : Nat), v = (.slice z H.length u : Value) ∧ ownS Gx.encB H z u s, fun f v s => ∃ (az : Option Addr) (au : Nat), v = (.slice az ([] : List Bool).length au : Value) ∧ ownS Gx.encB ([] : List Bool) az au s, fun f v s => v = (pB n 2 : Value) ∧ s = [], fun f v s => v = (.slice T c.Raised.length P : Value) ∧ s = [], fun f v s => ∃ (B : Option Addr) (x : Nat), v = (.slice B I.length x : Value) ∧ ownS Gx.encB I B x s, fun f v s => ∃ (V : Option Addr) (U : Nat) (am : Seg) (a3 : Seg), v = (.slice V ([] : List Interface).length U : Value) ∧ s = (am ++ a3) ∧ ownD deepInterface ([] : List Interface) V U am a3, fun f v s => v = (.agg #[(atPath (f 3) []), (atPath (f 7) []), (atPath (f 11) []), (atPath (f 12) [])] : Value) ∧ s = [], fun f v s => ∃ (q : Nat), v = (pB q 0 : Value) ∧ s = [(q, .cells ⟨[.slice none 0 0, .slice none 0 0, .slice none 0 0, .slice none 0 0]⟩ 32 (0, 0))]] : List ((Nat → Value) → Value → Seg → Prop)).getD i (fun _ _ _ => False)) j f v s) [] [3, 7, 11, 12, 13, 14] [3, 7, 11, 12, 14] (fun _ _ _ s h => ⟨s, h⟩) (by kernel_rfl) (by kernel_rfl) (cv.preNil 15) (by kernel_rfl) (by kernel_rfl) (by kernel_rfl) (by kernel_rfl) (allOb_cons ?_ (allOb_cons ?_ (allOb_cons ?_ (allOb_cons ?_ (allOb_cons ?_ (allOb_cons ?_ (allOb_cons ?_ (allOb_cons ?_ (allOb_cons ?_ (allOb_cons ?_ (allOb_cons ?_ (allOb_cons ?_ (allOb_cons ?_ (allOb_cons ?_ (allOb_cons ?_ allOb_nil))))))))))))))) ?_)
 ·intro d W
  intro R e4 cw
  refine wL (E := encRoute) ([] : List Route) 0 [] 129 cw ?_
  intro ax aq ea e5 bi cx
  exact W_nil (oE (.slice ax ([] : List Route).length aq) ea ⟨ax, aq, rfl, bi⟩ (Mem.mid cx))
 ·intro d W
  intro R eg cy
  exact wR 1 [(6, pB n 0)] eg (W_nil (oE (pB n 0) [] ⟨by kernel_rfl, rfl⟩ cy))
 ·intro d W
  intro v1_ hb1_
  obtain ⟨rfl, _⟩ := hb1_
  intro R eh bw
  exact wV (.slice Q c.Routes.length N) eh (eL false 1 0 (bw.blk 0 rfl)) (W_nil (oE (.slice Q c.Routes.length N) [] ⟨by kernel_rfl, rfl⟩ bw))
 ·intro d W
  intro v0_ hb0_
  obtain ⟨ax, aq, rfl, bi⟩ := hb0_
  intro v2_ hb2_
  obtain ⟨rfl, _⟩ := hb2_
  intro R e6 bx
  refine wA 16 [iv 0, iv 0] 3 bx bi (dq.mem0 bx) dw ?_
  intro y t eb e7 bj cz
  exact W_nil (oE (.slice y G.length t) eb ⟨y, t, rfl, bj⟩ (Mem.takeOver cz))
 ·intro d W
  intro R e8 c0
  refine wL (E := Gx.encB) ([] : List Bool) 0 [] 4 c0 ?_
  intro ay ar ec e9 bk c1
  exact W_nil (oE (.slice ay ([] : List Bool).length ar) ec ⟨ay, ar, rfl, bk⟩ (Mem.mid c1))
 ·intro d W
  intro R ei c2
  exact wR 1 [(10, pB n 1)] ei (W_nil (oE (pB n 1) [] ⟨by kernel_rfl, rfl⟩ c2))
 ·intro d W
  intro v5_ hb5_
  obtain ⟨rfl, _⟩ := hb5_
  intro R ej bz
  exact wV (.slice S c.Enabled.length O) ej (eL false 1 1 (bz.blk 0 rfl)) (W_nil (oE (.slice S c.Enabled.length O) [] ⟨by kernel_rfl, rfl⟩ bz))
 ·intro d W
  intro v4_ hb4_
  obtain ⟨ay, ar, rfl, bk⟩ := hb4_
  intro v6_ hb6_
  obtain ⟨rfl, _⟩ := hb6_
  intro R fa b0
  refine wA 1 [.bool false] 3 b0 bk (dr.mem0 b0) dx ?_
  intro z u ed fb bl c3
  exact W_nil (oE (.slice z H.length u) ed ⟨z, u, rfl, bl⟩ (Mem.takeOver c3))
 ·intro d W
  intro R fc c4
  refine wL (E := Gx.encB) ([] : List Bool) 0 [] 4 c4 ?_
  intro az au ee fd bm c5
  exact W_nil (oE (.slice az ([] : List Bool).length au) ee ⟨az, au, rfl, bm⟩ (Mem.mid c5))
 ·intro d W
  intro R ek c6
  exact wR 1 [(14, pB n 2)] ek (W_nil (oE (pB n 2) [] ⟨by kernel_rfl, rfl⟩ c6))
 ·intro d W
  intro v9_ hb9_
  obtain ⟨rfl, _⟩ := hb9_
  intro R el b1
  exact wV (.slice T c.Raised.length P) el (eL false 1 2 (b1.blk 0 rfl)) (W_nil (oE (.slice T c.Raised.length P) [] ⟨by kernel_rfl, rfl⟩ b1))
 ·intro d W
  intro v8_ hb8_
  obtain ⟨az, au, rfl, bm⟩ := hb8_
  intro v10_ hb10_
  obtain ⟨rfl, _⟩ := hb10_
  intro R fe b2
  refine wA 1 [.bool false] 3 b2 bm (ds.mem0 b2) dy ?_
  intro B x ef ff bn c7
  exact W_nil (oE (.slice B I.length x) ef ⟨B, x, rfl, bn⟩ (Mem.takeOver c7))
 ·intro d W
  intro R fg c8
  refine W_litD (D := deepInterface) (s1 := []) [] ([] : List Interface) rfl 0 [] 87 c8 (by kernel_rfl) (by kernel_rfl) (by kernel_rfl) (by kernel_rfl) (by kernel_rfl) ownI_nil ?_
  intro V U am fh bo c9
  exact W_nil (oE (.slice V ([] : List Interface).length U) (am ++ []) ⟨V, U, am, [], rfl, rfl, bo⟩ (Mem.mid (by rw [List.append_nil]; exact c9)))
 ·intro d W
  intro v3_ hb3_
  obtain ⟨_, y, t, rfl, _⟩ := hb3_
  intro v7_ hb7_
  obtain ⟨_, z, u, rfl, _⟩ := hb7_
  intro v11_ hb11_
  obtain ⟨_, B, x, rfl, _⟩ := hb11_
  intro v12_ hb12_
  obtain ⟨_, V, U, _, _, rfl, _⟩ := hb12_
  intro R em da
  exact wR 1 [(18, .agg #[.slice y G.length t, .slice z H.length u, .slice B I.length x, .slice V ([] : List Interface).length U])] em (W_nil (oE (.agg #[.slice y G.length t, .slice z H.length u, .slice B I.length x, .slice V ([] : List Interface).length U]) [] ⟨by kernel_rfl, rfl⟩ da))
 ·intro d W
  intro R fi db
  refine wN (.cells ⟨[.slice none 0 0, .slice none 0 0, .slice none 0 0, .slice none 0 0]⟩ 32 (0, 0)) db ?_
  intro q fj dc
  exact W_nil (oE (pB q 0) [(q, .cells ⟨[.slice none 0 0, .slice none 0 0, .slice none 0 0, .slice none 0 0]⟩ 32 (0, 0))] ⟨q, rfl, rfl⟩ (Mem.mid dc))
 intro d W
 intro v3_ hb3_
 obtain ⟨y, t, rfl, bj⟩ := hb3_
 intro v7_ hb7_
 obtain ⟨z, u, rfl, bl⟩ := hb7_
 intro v11_ hb11_
 obtain ⟨B, x, rfl, bn⟩ := hb11_
 intro v12_ hb12_
 obtain ⟨V, U, am, a3, rfl, hs12_, bo⟩ := hb12_
 intro v13_ hb13_
 obtain ⟨hv13_, _⟩ := hb13_
 obtain rfl : v13_ = (.agg #[.slice y G.length t, .slice z H.length u, .slice B I.length x, .slice V ([] : List Interface).length U] : Value) := hv13_.trans (by kernel_rfl)
 intro v14_ hb14_
 obtain ⟨q, rfl, hs14_⟩ := hb14_
 intro cp dd
 have a5 : Mem [] w cp [[(n, .cells ⟨[.slice Q c.Routes.length N, .slice S c.Enabled.length O, .slice T c.Raised.length P, .slice J c.Cpus.length L]⟩ 32 (0, 0))], [(K, .cells ⟨[.slice none 0 0, .slice none 0 0, .slice none 0 0, .slice none 0 0]⟩ 32 (0, 0))], (d 3), (d 7), (d 11), (d 12), (d 14)] := dd
 rw [hs12_] at a5
 rw [hs14_] at a5
 replace a5 : Mem [] w cp [[(n, .cells ⟨[.slice Q c.Routes.length N, .slice S c.Enabled.length O, .slice T c.Raised.length P, .slice J c.Cpus.length L]⟩ 32 (0, 0))], [(K, .cells ⟨[.slice none 0 0, .slice none 0 0, .slice none 0 0, .slice none 0 0]⟩ 32 (0, 0))], (d 3), (d 7), (d 11), am, a3, [(q, .cells ⟨[.slice none 0 0, .slice none 0 0, .slice none 0 0, .slice none 0 0]⟩ 32 (0, 0))]] := a5.permF (by simp)
 refine wS true 4 0 (.agg #[.slice y G.length t, .slice z H.length u, .slice B I.length x, .slice V ([] : List Interface).length U]) 7 [.slice y G.length t, .slice z H.length u, .slice B I.length x, .slice V ([] : List Interface).length U] a5 rfl ?_
 intro en de
 refine W_nil (N_then (G_seq (G_seq (G_region (wR 1 [(1, pB n 0), (2, pB K 0), (3, pB q 0), (4, iv 0)] en (W_nil (N_then ?_)))))))
 obtain ⟨aw, d7, d1⟩ := gx_bind hm
 refine G_meet (fun a w' => ∃ (ai : Option Addr), ∃ (ad : Nat), ∃ (bc : Seg), ∃ (bd : Seg), ownD deepInterface aw ai ad bc bd ∧ Mem [] w w' [[(K, .cells ⟨[.slice none 0 0, .slice none 0 0, .slice none 0 0, .slice none 0 0]⟩ 32 (0, 0))], (d 3), (d 7), (d 11), [(q, .cells ⟨[.slice y G.length t, .slice z H.length u, .slice B I.length x, .slice ai aw.length ad]⟩ 32 (0, 0))], bc, bd] ∧ Sat Tryz.f88.ntmps [(2, pB K 0), (3, pB q 0)] a) ?_ ?_
 ·refine G_block (G_while (σ := Int × List Interface) (ρ := List Interface) (fun C a w' => ∃ (Y : Option Addr), ∃ (X : Nat), ∃ (a4 : Seg), ∃ (an : Seg), ownD deepInterface C.2 Y X a4 an ∧ Mem [] w w' [[(n, .cells ⟨[.slice Q c.Routes.length N, .slice S c.Enabled.length O, .slice T c.Raised.length P, .slice J c.Cpus.length L]⟩ 32 (0, 0))], [(K, .cells ⟨[.slice none 0 0, .slice none 0 0, .slice none 0 0, .slice none 0 0]⟩ 32 (0, 0))], (d 3), (d 7), (d 11), [(q, .cells ⟨[.slice y G.length t, .slice z H.length u, .slice B I.length x, .slice Y C.2.length X]⟩ 32 (0, 0))], a4, an] ∧ Sat Tryz.f88.ntmps [(1, pB n 0), (2, pB K 0), (3, pB q 0), (4, iv C.1)] a) d7 (fun a ha => ⟨V, U, am, a3, bo, de.pk [0, 1, 2, 3, 4, 7, 5, 6], ha.s⟩) ?_)
  clear hm
  intro C fn hm d4 e0 bu ⟨Y, X, a4, an, cd, be, du⟩
  refine G_use du (G_seq (G_seq (G_region (wR 2 [(1, pB n 0), (2, pB K 0), (3, pB q 0), (4, iv C.1), (19, iv C.1), (20, pB n 3)] bu (wV (.slice J c.Cpus.length L) bu (eL false 1 3 (be.blk 0 rfl)) (wR 2 [(1, pB n 0), (2, pB K 0), (3, pB q 0), (4, iv C.1), (23, .bool (decide (C.1 < (c.Cpus.length : Int))))] bu (W_nil (N_then ?_))))))))
  rcases gx_bif hm with ⟨bg, hm⟩ | ⟨bg, hm⟩
  ·refine gT bg (G_skip (N_then (G_seq (G_block ?_))))
   obtain ⟨F, d8, hm⟩ := gx_bind hm
   obtain ⟨fo, cf, ce, bh⟩ := id dt
   obtain ⟨m, a7⟩ := gxIdx_fst cf d8
   obtain ⟨l, d5, hm⟩ := gx_bind hm
   refine G_sub [(1, pB n 0), (2, pB K 0), (3, pB q 0), (4, iv C.1), (23, .bool (decide (C.1 < (c.Cpus.length : Int))))] (by kernel_rfl) (G_dagL 9 [[], [0], [], [2], [], [3, 4], [5], [6], [7]] [[], [], [], [], [], [], [], [], [7]] [[], [], [], [], [], [], [], [], []] [[], [], [], [], [], [], [], [], []] [[], [], [], [], [], [], [], [], []] [[], [], [], [], [], [], [], [], []] (fun _ => []) (fun i => ([fun f v s => v = (pB q 3 : Value) ∧ s = [], fun f v s => v = (.slice Y C.2.length X : Value) ∧ s = [], fun f v s => v = (pB n 3 : Value) ∧ s = [], fun f v s => v = (.slice J c.Cpus.length L : Value) ∧ s = [], fun f v s => v = (iv C.1 : Value) ∧ s = [], fun f v s => v = (elemP J (C.1.toNat * 4) : Value) ∧ s = [], fun f v s => v = (.agg #[iv F.Mask, .slice ((m 0).1) F.Stack.length ((m 0).2), .slice ((m 1).1) F.Queue.Slots.length ((m 1).2), .slice ((m 2).1) F.Queue.Waiting.length ((m 2).2)] : Value) ∧ s = [], fun f v s => ∃ (aj : Option Addr) (ae : Nat) (Z : Seg), ∃ (ak : Option Addr) (af : Nat) (aa : Seg), ∃ (al : Option Addr) (ag : Nat) (ab : Seg), v = (.agg #[iv l.Mask, .slice aj l.Stack.length ae, .slice ak l.Queue.Slots.length af, .slice al l.Queue.Waiting.length ag] : Value) ∧ s = (Z ++ (aa ++ ab)) ∧ ownS Gx.encI l.Stack aj ae Z ∧ ownS encSlot l.Queue.Slots ak af aa ∧ ownS encWaiter l.Queue.Waiting al ag ab, fun f v s => ∃ (a0 : Option Addr) (ap : Nat) (ac : Seg) (ao : Seg), v = (.slice a0 [(⟨l.Mask, l.Stack, (⟨l.Queue.Slots, l.Queue.Waiting⟩ : Queue)⟩ : Interface)].length ap : Value) ∧ s = (ac ++ ao) ∧ ownD deepInterface [(⟨l.Mask, l.Stack, (⟨l.Queue.Slots, l.Queue.Waiting⟩ : Queue)⟩ : Interface)] a0 ap ac ao] : List ((Nat → Value) → Value → Seg → Prop)).getD i (fun _ _ _ => False)) (fun j f v => ∃ s, (fun i => ([fun f v s => v = (pB q 3 : Value) ∧ s = [], fun f v s => v = (.slice Y C.2.length X : Value) ∧ s = [], fun f v s => v = (pB n 3 : Value) ∧ s = [], fun f v s => v = (.slice J c.Cpus.length L : Value) ∧ s = [], fun f v s => v = (iv C.1 : Value) ∧ s = [], fun f v s => v = (elemP J (C.1.toNat * 4) : Value) ∧ s = [], fun f v s => v = (.agg #[iv F.Mask, .slice ((m 0).1) F.Stack.length ((m 0).2), .slice ((m 1).1) F.Queue.Slots.length ((m 1).2), .slice ((m 2).1) F.Queue.Waiting.length ((m 2).2)] : Value) ∧ s = [], fun f v s => ∃ (aj : Option Addr) (ae : Nat) (Z : Seg), ∃ (ak : Option Addr) (af : Nat) (aa : Seg), ∃ (al : Option Addr) (ag : Nat) (ab : Seg), v = (.agg #[iv l.Mask, .slice aj l.Stack.length ae, .slice ak l.Queue.Slots.length af, .slice al l.Queue.Waiting.length ag] : Value) ∧ s = (Z ++ (aa ++ ab)) ∧ ownS Gx.encI l.Stack aj ae Z ∧ ownS encSlot l.Queue.Slots ak af aa ∧ ownS encWaiter l.Queue.Waiting al ag ab, fun f v s => ∃ (a0 : Option Addr) (ap : Nat) (ac : Seg) (ao : Seg), v = (.slice a0 [(⟨l.Mask, l.Stack, (⟨l.Queue.Slots, l.Queue.Waiting⟩ : Queue)⟩ : Interface)].length ap : Value) ∧ s = (ac ++ ao) ∧ ownD deepInterface [(⟨l.Mask, l.Stack, (⟨l.Queue.Slots, l.Queue.Waiting⟩ : Queue)⟩ : Interface)] a0 ap ac ao] : List ((Nat → Value) → Value → Seg → Prop)).getD i (fun _ _ _ => False)) j f v s) [] [1, 8] [8] (fun _ _ _ s h => ⟨s, h⟩) (by kernel_rfl) (by kernel_rfl) (be.preNil 9) (by kernel_rfl) (by kernel_rfl) (by kernel_rfl) (by kernel_rfl) (allOb_cons ?_ (allOb_cons ?_ (allOb_cons ?_ (allOb_cons ?_ (allOb_cons ?_ (allOb_cons ?_ (allOb_cons ?_ (allOb_cons ?_ (allOb_cons ?_ allOb_nil))))))))) ?_)
   ·intro ah av
    intro R eo df
    exact wR 1 [(26, pB q 3)] eo (W_nil (oE (pB q 3) [] ⟨by kernel_rfl, rfl⟩ df))
   ·intro ah av
    intro v0_ hb0_
    obtain ⟨rfl, _⟩ := hb0_
    intro R ep b3
    exact wV (.slice Y C.2.length X) ep (eL false 1 3 (b3.blk 5 rfl)) (W_nil (oE (.slice Y C.2.length X) [] ⟨by kernel_rfl, rfl⟩ b3))
   ·intro ah av
    intro R er dg
    exact wR 1 [(28, pB n 3)] er (W_nil (oE (pB n 3) [] ⟨by kernel_rfl, rfl⟩ dg))
   ·intro ah av
    intro v2_ hb2_
    obtain ⟨rfl, _⟩ := hb2_
    intro R es b4
    exact wV (.slice J c.Cpus.length L) es (eL false 1 3 (b4.blk 0 rfl)) (W_nil (oE (.slice J c.Cpus.length L) [] ⟨by kernel_rfl, rfl⟩ b4))
   ·intro ah av
    intro R et dh
    exact wR 1 [(30, iv C.1)] et (W_nil (oE (iv C.1) [] ⟨by kernel_rfl, rfl⟩ dh))
   ·intro ah av
    intro v3_ hb3_
    obtain ⟨rfl, _⟩ := hb3_
    intro v4_ hb4_
    obtain ⟨rfl, _⟩ := hb4_
    intro R eu b5
    exact wV (elemP J (C.1.toNat * 4)) eu (eI (ce.mem0 b5) (len_fst cf) a7) (W_nil (oE (elemP J (C.1.toNat * 4)) [] ⟨by kernel_rfl, rfl⟩ b5))
   ·intro ah av
    intro v5_ hb5_
    obtain ⟨rfl, _⟩ := hb5_
    intro R ev b6
    exact wV (.agg #[iv F.Mask, .slice ((m 0).1) F.Stack.length ((m 0).2), .slice ((m 1).1) F.Queue.Slots.length ((m 1).2), .slice ((m 2).1) F.Queue.Waiting.length ((m 2).2)]) ev (eE true 4 0 (C.1.toNat * 4) (ce.mem0 b6) a7) (W_nil (oE (.agg #[iv F.Mask, .slice ((m 0).1) F.Stack.length ((m 0).2), .slice ((m 1).1) F.Queue.Slots.length ((m 1).2), .slice ((m 2).1) F.Queue.Waiting.length ((m 2).2)]) [] ⟨by kernel_rfl, rfl⟩ b6))
   ·intro ah av
    intro v6_ hb6_
    obtain ⟨rfl, _⟩ := hb6_
    intro R ew a8
    refine wC 145 #[.agg #[iv F.Mask, .slice ((m 0).1) F.Stack.length ((m 0).2), .slice ((m 1).1) F.Queue.Slots.length ((m 1).2), .slice ((m 2).1) F.Queue.Waiting.length ((m 2).2)]] ((c_s_l10Own ew (⟨F.Mask, F.Stack, (⟨F.Queue.Slots, F.Queue.Waiting⟩ : Queue)⟩ : Interface) ((m 0).1) ((m 0).2) ((bh.mem0 a8).at_ a7 0 ⟨Int, Gx.encI, F.Stack, (m 0).1, (m 0).2⟩ (by kernel_rfl)) ((m 1).1) ((m 1).2) ((bh.mem0 a8).at_ a7 1 ⟨Slot, encSlot, F.Queue.Slots, (m 1).1, (m 1).2⟩ (by kernel_rfl)) ((m 2).1) ((m 2).2) ((bh.mem0 a8).at_ a7 2 ⟨Waiter, encWaiter, F.Queue.Waiting, (m 2).1, (m 2).2⟩ (by kernel_rfl)) d5).mono ?_)
    rintro e_ fk ⟨aj, ae, Z, ak, af, aa, al, ag, ab, rfl, bp, bq, br, ct⟩
    refine ⟨_, rfl, ?_⟩
    exact W_nil (oE (.agg #[iv l.Mask, .slice aj l.Stack.length ae, .slice ak l.Queue.Slots.length af, .slice al l.Queue.Waiting.length ag]) (Z ++ (aa ++ ab)) ⟨aj, ae, Z, ak, af, aa, al, ag, ab, rfl, rfl, bp, bq, br⟩ (Mem.callMid a8 (ct.permF (by simp))))
   ·intro ah av
    intro v7_ hb7_
    obtain ⟨aj, ae, Z, ak, af, aa, al, ag, ab, rfl, hs7_, bp, bq, br⟩ := hb7_
    intro R cq di
    have a9 : Mem [] w cq ([[(n, .cells ⟨[.slice Q c.Routes.length N, .slice S c.Enabled.length O, .slice T c.Raised.length P, .slice J c.Cpus.length L]⟩ 32 (0, 0))], [(K, .cells ⟨[.slice none 0 0, .slice none 0 0, .slice none 0 0, .slice none 0 0]⟩ 32 (0, 0))], (d 3), (d 7), (d 11), [(q, .cells ⟨[.slice y G.length t, .slice z H.length u, .slice B I.length x, .slice Y C.2.length X]⟩ 32 (0, 0))], a4, an] ++ ([[]] ++ ([(ah 7)] ++ ([] ++ R)))) := di
    rw [hs7_] at a9
    replace a9 : Mem [] w cq ([[(n, .cells ⟨[.slice Q c.Routes.length N, .slice S c.Enabled.length O, .slice T c.Raised.length P, .slice J c.Cpus.length L]⟩ 32 (0, 0))], [(K, .cells ⟨[.slice none 0 0, .slice none 0 0, .slice none 0 0, .slice none 0 0]⟩ 32 (0, 0))], (d 3), (d 7), (d 11), [(q, .cells ⟨[.slice y G.length t, .slice z H.length u, .slice B I.length x, .slice Y C.2.length X]⟩ 32 (0, 0))], a4, an] ++ ([[]] ++ ([Z, aa, ab] ++ ([] ++ R)))) := a9.permF (by simp)
    refine W_litD (D := deepInterface) [((⟨l.Mask, l.Stack, (⟨l.Queue.Slots, l.Queue.Waiting⟩ : Queue)⟩ : Interface), plOf [(aj, ae), (ak, af), (al, ag)])] [(⟨l.Mask, l.Stack, (⟨l.Queue.Slots, l.Queue.Waiting⟩ : Queue)⟩ : Interface)] rfl 1 [iv l.Mask, .slice aj l.Stack.length ae, .slice ak l.Queue.Slots.length af, .slice al l.Queue.Waiting.length ag] 87 a9 (by kernel_rfl) (by kernel_rfl) (by kernel_rfl) (by kernel_rfl) (by kernel_rfl) (ownI_cons (i := ⟨Int, Gx.encI, _, _, _⟩) bp (ownI_cons (i := ⟨Slot, encSlot, _, _, _⟩) bq (ownI_cons (i := ⟨Waiter, encWaiter, _, _, _⟩) br ownI_nil))) ?_
    intro a0 ap ac fl bs dj
    exact W_nil (oE (.slice a0 [(⟨l.Mask, l.Stack, (⟨l.Queue.Slots, l.Queue.Waiting⟩ : Queue)⟩ : Interface)].length ap) (ac ++ (Z ++ (aa ++ (ab ++ [])))) ⟨a0, ap, ac, (Z ++ (aa ++ (ab ++ []))), rfl, rfl, bs⟩ (Mem.midJ (A := [Z, aa, ab]) dj))
   intro ah av
   intro v1_ hb1_
   obtain ⟨rfl, _⟩ := hb1_
   intro v8_ hb8_
   obtain ⟨a0, ap, ac, ao, rfl, hs8_, bs⟩ := hb8_
   intro cr dk
   have a6 : Mem [] w cr [[(n, .cells ⟨[.slice Q c.Routes.length N, .slice S c.Enabled.length O, .slice T c.Raised.length P, .slice J c.Cpus.length L]⟩ 32 (0, 0))], [(K, .cells ⟨[.slice none 0 0, .slice none 0 0, .slice none 0 0, .slice none 0 0]⟩ 32 (0, 0))], (d 3), (d 7), (d 11), [(q, .cells ⟨[.slice y G.length t, .slice z H.length u, .slice B I.length x, .slice Y C.2.length X]⟩ 32 (0, 0))], a4, an, (ah 8)] := dk
   rw [hs8_] at a6
   replace a6 : Mem [] w cr [[(n, .cells ⟨[.slice Q c.Routes.length N, .slice S c.Enabled.length O, .slice T c.Raised.length P, .slice J c.Cpus.length L]⟩ 32 (0, 0))], [(K, .cells ⟨[.slice none 0 0, .slice none 0 0, .slice none 0 0, .slice none 0 0]⟩ 32 (0, 0))], (d 3), (d 7), (d 11), [(q, .cells ⟨[.slice y G.length t, .slice z H.length u, .slice B I.length x, .slice Y C.2.length X]⟩ 32 (0, 0))], a4, an, ac, ao] := a6.permF (by simp)
   obtain ⟨bf, dz, hm⟩ := gx_bind hm
   obtain ⟨ez, d9, d6, d0⟩ := id bs
   refine W_appendD (D := deepInterface) (us := ez) (s2 := ao) _ _ _ 80 [iv 0, .slice none 0 0, .slice none 0 0, .slice none 0 0] 6 ap a6 cd (by kernel_rfl) (by kernel_rfl) (by kernel_rfl) rfl (by kernel_rfl) (by kernel_rfl) (by kernel_rfl) (by kernel_rfl) (by kernel_rfl) (by kernel_rfl) (d6.rd a6 8 (by kernel_rfl)) d9 d0 dz ?_
   intro bb ba bt bv d3 dl
   have dm : Mem [] w bv [[(n, .cells ⟨[.slice Q c.Routes.length N, .slice S c.Enabled.length O, .slice T c.Raised.length P, .slice J c.Cpus.length L]⟩ 32 (0, 0))], [(K, .cells ⟨[.slice none 0 0, .slice none 0 0, .slice none 0 0, .slice none 0 0]⟩ 32 (0, 0))], (d 3), (d 7), (d 11), [(q, .cells ⟨[.slice y G.length t, .slice z H.length u, .slice B I.length x, .slice Y C.2.length X]⟩ 32 (0, 0))], bt, ac, an, ao] := dl.pk [0, 1, 2, 3, 4, 5, 6, 8, 7, 9]
   have dn : Mem [] w bv [[(n, .cells ⟨[.slice Q c.Routes.length N, .slice S c.Enabled.length O, .slice T c.Raised.length P, .slice J c.Cpus.length L]⟩ 32 (0, 0))], [(K, .cells ⟨[.slice none 0 0, .slice none 0 0, .slice none 0 0, .slice none 0 0]⟩ 32 (0, 0))], (d 3), (d 7), (d 11), [(q, .cells ⟨[.slice y G.length t, .slice z H.length u, .slice B I.length x, .slice Y C.2.length X]⟩ 32 (0, 0))], bt, ac, (an ++ ao)] := dm.regroup (by simp)
   refine wR 1 [(1, pB n 0), (2, pB K 0), (3, pB q 0), (4, iv C.1), (35, .slice bb bf.length ba), (36, pB q 3)] bv (wS false 1 3 (.slice bb bf.length ba) 5 [.slice y G.length t, .slice z H.length u, .slice B I.length x, .slice bb bf.length ba] dn rfl ?_)
   intro ex dp
   refine W_nil (N_block (N_then (G_region (wR 3 [(1, pB n 0), (2, pB K 0), (3, pB q 0), (4, iv (w64 (C.1 + 1)))] ex (W_nil ?_)))))
   obtain rfl := Option.some.inj hm
   exact N_loop fun a ha => ⟨_, rfl, bb, ba, bt, (an ++ ao), d3, dp.pk [0, 1, 2, 3, 4, 5, 6, 8], ha.s⟩
  refine gF bg (G_exit (N_then_exit (N_then_exit (N_block_eq ?_))))
  obtain rfl := Option.some.inj hm
  obtain rfl := d4 _ rfl
  exact N_meet fun a ha => ⟨Y, X, a4, an, cd, be.pk [1, 2, 3, 4, 5, 6, 7], ha.s⟩
 intro e1 ey ⟨ai, ad, bc, bd, d2, b7, dv⟩
 refine N_use dv ?_
 have hm := d1
 refine N_then (G_seq (G_region (wV (.agg #[.slice y G.length t, .slice z H.length u, .slice B I.length x, .slice ai aw.length ad]) ey (eL true 4 0 (b7.blk 4 rfl)) (wS true 4 0 (.agg #[.slice y G.length t, .slice z H.length u, .slice B I.length x, .slice ai aw.length ad]) 0 [.slice y G.length t, .slice z H.length u, .slice B I.length x, .slice ai aw.length ad] b7 rfl ?_))))
 intro fm b8
 refine W_nil (N_then (G_ret ?_))
 obtain rfl := Option.some.inj hm
 exact N_ret [.agg #[.slice y G.length t, .slice z H.length u, .slice B I.length x, .slice ai aw.length ad]] (RVs_cons (RV_cell (g := true) (k := 4) (b := K) (off := 0) (cs := [.slice y G.length t, .slice z H.length u, .slice B I.length x, .slice ai aw.length ad]) (e := 32) (fr := (0, 0)) (v := .agg #[.slice y G.length t, .slice z H.length u, .slice B I.length x, .slice ai aw.length ad]) (b8.blk 0 (b := K) (o := .cells ⟨[.slice y G.length t, .slice z H.length u, .slice B I.length x, .slice ai aw.length ad]⟩ 32 (0, 0)) (by kernel_rfl)) (by kernel_rfl) (by kernel_rfl) (by kernel_rfl)) RVs_nil) (⟨y, t, (d 3), z, u, (d 7), B, x, (d 11), ai, ad, bc, bd, rfl, bj, bl, bn, d2, b8.pk [1, 2, 3, 5, 6]⟩)
theorem c_s_l8With (w : World) (g : List Slot) (j : Option Addr) (i : Nat) (z : rdS encSlot w g j i) (b : Int) (a : Slot) {r : (List Slot)} (hm : M.s_l8With g b a = some r) :
  Calls Tryz.prog 251 #[.slice j g.length i, iv b, .agg #[iv a.State, iv a.Irq, iv a.Priority]] w fun e w' => ∃ (t : Option Addr) (n : Nat) (u : Seg), e = .returned (.slice t r.length n) ∧ ownS encSlot r t n u ∧ Mem [] w w' [u] := by
 unfold M.s_l8With at hm
 refine cE Tryz.func251 ?_
 have M0 := Mem.refl [] w
 refine G_seq (G_region (wN (.cells ⟨[iv a.State, iv a.Irq, iv a.Priority]⟩ 117 (0, 0)) M0 ?_))
 intro h G v
 refine wR 1 [(0, .slice j g.length i), (1, iv b), (5, pB h 0)] G (W_nil (N_then (G_seq (G_region (wL (E := encSlot) ([] : List Slot) 0 [] 117 v ?_)))))
 intro D y K H B m
 refine wR 1 [(1, iv b), (5, pB h 0), (8, .slice D ([] : List Slot).length y), (9, .slice j g.length i)] H ?_
 obtain ⟨c, A, hm⟩ := gx_bind hm
 refine wA 24 [iv 0, iv 0, iv 0] 1 m B (z.mem0 m) A ?_
 intro d f L k o l
 refine wR 1 [(1, iv b), (5, pB h 0), (7, .slice d c.length f)] k (W_nil (N_then (G_seq (G_region (wR 2 [(5, pB h 0), (7, .slice d c.length f), (11, .slice d c.length f), (12, iv b)] k (wV (.agg #[iv a.State, iv a.Irq, iv a.Priority]) k (eL true 3 0 (l.blk 0 rfl)) ?_))))))
 obtain ⟨J, q, hm⟩ := gx_bind hm
 refine wV (elemP d (b.toNat * 3)) k (eI (o.rd l 1 (by kernel_rfl)) rfl q) (wE true 3 b.toNat 0 (b.toNat * 3) J a (.agg #[iv a.State, iv a.Irq, iv a.Priority]) 1 l o (gxIdx_spec q).2 ?_)
 intro I F C x
 refine wX 7 (.slice d c.length f) (.slice d (c.set b.toNat a).length f) (by rw [@List.length_set _ c b.toNat a]) (wX 11 (.slice d c.length f) (.slice d (c.set b.toNat a).length f) (by rw [@List.length_set _ c b.toNat a]) (W_nil (N_then (G_seq (G_region (wR 2 [(6, .slice d (c.set b.toNat a).length f)] I (W_nil (N_then (G_ret ?_)))))))))
 obtain rfl := Option.some.inj hm
 exact N_ret [.slice d (c.set b.toNat a).length f] (rC RVs_nil) (⟨d, f, F, rfl, C, x.pk [1]⟩)
theorem c_s_l8Put (w : World) (c : List Slot) (b : Option Addr) (d : Nat) (l : rdS encSlot w c b d) (g : Int) (i : Int) {r : (List Slot) × Bool} (hm : M.s_l8Put c g i = some r) :
  Calls Tryz.prog 223 #[.slice b c.length d, iv g, iv i] w fun e w' => ∃ (L : Option Addr) (J : Nat) (P : Seg), e = .returned (.tuple #[.slice L r.1.length J, .bool r.2]) ∧ ownS encSlot r.1 L J P ∧ Mem [] w w' [P] := by
 unfold M.s_l8Put at hm
 refine cE Tryz.func223 ?_
 have M0 := Mem.refl [] w
 refine G_seq (G_region (wR 2 [(0, .slice b c.length d), (1, iv g), (2, iv i)] w (W_nil (N_then (G_seq (G_seq (G_region (wR 2 [(0, .slice b c.length d), (1, iv g), (2, iv i), (11, .slice b c.length d), (12, iv g)] w ?_))))))))
 obtain ⟨h, af, hm⟩ := gx_bind hm
 refine wC 192 #[.slice b c.length d, iv g] ((c_s_l8Find w c b d (l.mem0 M0) g af).mono ?_)
 rintro e_ k ⟨rfl, Q⟩
 have n := M0.call0 Q
 refine ⟨_, rfl, ?_⟩
 refine wR 1 [(0, .slice b c.length d), (1, iv g), (2, iv i), (8, iv h)] k (W_nil (N_then (G_seq (G_region (wR 2 [(0, .slice b c.length d), (1, iv g), (2, iv i), (8, iv h), (15, .bool (decide (h ≥ 0)))] k (W_nil (N_then ?_)))))))
 rcases gx_bif hm with ⟨B, hm⟩ | ⟨B, hm⟩
 ·refine gT B (G_seq (G_region (wR 2 [(0, .slice b c.length d), (8, iv h), (16, .slice b c.length d), (17, iv h)] k ?_)))
  obtain ⟨f, K, hm⟩ := gx_bind hm
  refine wV (elemP b (h.toNat * 3)) k (eI (l.mem0 n) rfl K) (wV (.agg #[iv f.State, iv f.Irq, iv f.Priority]) k (eE true 3 0 (h.toNat * 3) (l.mem0 n) K) (wN (.cells ⟨[iv 0, iv 0, iv 0]⟩ 117 (0, 0)) n ?_))
  intro j aq U
  refine wS true 3 0 (.agg #[iv f.State, iv f.Irq, iv f.Priority]) 0 [iv f.State, iv f.Irq, iv f.Priority] U rfl ?_
  intro q u
  refine W_nil (N_then (G_seq (G_seq (G_region (wR 1 [(0, .slice b c.length d), (8, iv h), (9, pB j 0), (20, pB j 0)] q (wV (iv f.State) q (eL false 1 0 (u.blk 0 rfl)) (wR 1 [(0, .slice b c.length d), (8, iv h), (9, pB j 0), (22, .bool (f.State == 2))] q (W_nil (N_then ?_)))))))))
  obtain ⟨o, ab, aa⟩ := gx_bind hm
  refine G_meet (fun a w' => Mem [] w w' [[(j, .cells ⟨[iv o, iv f.Irq, iv f.Priority]⟩ 117 (0, 0))]] ∧ Sat Tryz.f223.ntmps [(0, .slice b c.length d), (8, iv h), (9, pB j 0)] a) ?_ ?_
  ·have hm := ab
   rcases gx_bif hm with ⟨C, hm⟩ | ⟨C, hm⟩
   ·refine gT C (G_region (wR 1 [(0, .slice b c.length d), (8, iv h), (9, pB j 0), (23, pB j 0)] q (wS false 1 0 (iv 3) 0 [iv 3, iv f.Irq, iv f.Priority] u rfl ?_)))
    intro ar V
    refine W_nil ?_
    obtain rfl := Option.some.inj hm
    exact N_meet fun a ha => ⟨V.pk [0], ha.s⟩
   refine gF C (G_skip ?_)
   obtain rfl := Option.some.inj hm
   exact N_meet fun a ha => ⟨u.pk [0], ha.s⟩
  intro ap I ⟨v, Z⟩
  refine N_use Z ?_
  have hm := aa
  refine N_then (G_seq (G_region (wR 2 [(9, pB j 0), (24, .slice b c.length d), (25, iv h)] I (wV (.agg #[iv o, iv f.Irq, iv f.Priority]) I (eL true 3 0 (v.blk 0 rfl)) ?_))))
  obtain ⟨N, ag, hm⟩ := gx_bind hm
  refine wC 251 #[.slice b c.length d, iv h, .agg #[iv o, iv f.Irq, iv f.Priority]] ((c_s_l8With I c b d (l.mem0 v) h (⟨o, f.Irq, f.Priority⟩ : Slot) ag).mono ?_)
  rintro e_ am ⟨F, y, aj, rfl, ac, R⟩
  have W := v.call R
  refine ⟨_, rfl, ?_⟩
  refine wR 2 [(6, .slice F N.length y), (7, .bool true)] am (W_nil (N_then (G_ret (N_then_ret ?_))))
  obtain rfl := Option.some.inj hm
  exact N_ret [.slice F N.length y, .bool true] (rC (rC RVs_nil)) (⟨F, y, aj, rfl, ac, W.pk [1]⟩)
 refine gF B (G_skip (N_then (G_seq (G_region (wR 1 [(0, .slice b c.length d), (1, iv g), (2, iv i), (28, .slice b c.length d)] k ?_)))))
 obtain ⟨m, ah, hm⟩ := gx_bind hm
 refine wC 235 #[.slice b c.length d] ((c_s_l8Free k c b d (l.mem0 n) ah).mono ?_)
 rintro e_ t ⟨rfl, S⟩
 have x := n.call0 S
 refine ⟨_, rfl, ?_⟩
 refine wR 1 [(0, .slice b c.length d), (1, iv g), (2, iv i), (10, iv m)] t (W_nil (N_then (G_seq (G_seq (G_region (wR 2 [(0, .slice b c.length d), (1, iv g), (2, iv i), (10, iv m), (31, .bool (decide (m < 0)))] t (W_nil (N_then ?_))))))))
 rcases gx_bif hm with ⟨D, hm⟩ | ⟨D, hm⟩
 ·refine gT D (G_seq (G_region (wL (E := encSlot) ([] : List Slot) 0 [] 117 x ?_)))
  intro G z ak an ad X
  refine wR 2 [(6, .slice G ([] : List Slot).length z), (7, .bool false)] an (W_nil (N_then (G_ret (N_then_ret ?_))))
  obtain rfl := Option.some.inj hm
  exact N_ret [.slice G ([] : List Slot).length z, .bool false] (rC (rC RVs_nil)) (⟨G, z, ak, rfl, ad, X.pk [0]⟩)
 refine gF D (G_skip (N_then (G_seq (G_region (wR 5 [(33, .slice b c.length d), (34, iv m), (37, .agg #[iv 1, iv g, iv i])] t ?_)))))
 obtain ⟨O, ai, hm⟩ := gx_bind hm
 refine wC 251 #[.slice b c.length d, iv m, .agg #[iv 1, iv g, iv i]] ((c_s_l8With t c b d (l.mem0 x) m (⟨1, g, i⟩ : Slot) ai).mono ?_)
 rintro e_ ao ⟨H, A, al, rfl, ae, T⟩
 have Y := x.call T
 refine ⟨_, rfl, ?_⟩
 refine wR 2 [(6, .slice H O.length A), (7, .bool true)] ao (W_nil (N_then (G_ret ?_)))
 obtain rfl := Option.some.inj hm
 exact N_ret [.slice H O.length A, .bool true] (rC (rC RVs_nil)) (⟨H, A, al, rfl, ae, Y.pk [0]⟩)
theorem c_s_l9Settle (w : World) (H : Queue) (X : Option Addr) (U : Nat) (cl : rdS encSlot w H.Slots X U) (Y : Option Addr) (V : Nat) (cm : rdS encWaiter w H.Waiting Y V) {r : Queue} (hm : M.s_l9Settle H = some r) :
  Calls Tryz.prog 224 #[.agg #[.slice X H.Slots.length U, .slice Y H.Waiting.length V]] w fun e w' => ∃ (bn : Option Addr) (bh : Nat) (bq : Seg), ∃ (bo : Option Addr) (bi : Nat) (br : Seg), e = .returned (.agg #[.slice bn r.Slots.length bh, .slice bo r.Waiting.length bi]) ∧ ownS encSlot r.Slots bn bh bq ∧ ownS encWaiter r.Waiting bo bi br ∧ Mem [] w w' [bq, br] := by
 unfold M.s_l9Settle at hm
 refine cE Tryz.func224 ?_
 have M0 := Mem.refl [] w
 refine G_seq (G_region (wN (.cells ⟨[.slice X H.Slots.length U, .slice Y H.Waiting.length V]⟩ 85 (0, 0)) M0 ?_))
 intro d5 d7 b3
 refine wN (.cells ⟨[.slice none 0 0, .slice none 0 0]⟩ 85 (0, 0)) b3 ?_
 intro q bt af
 refine W_nil (N_then (G_seq (G_region (wV (.agg #[.slice X H.Slots.length U, .slice Y H.Waiting.length V]) bt (eL true 2 0 (af.blk 0 rfl)) ?_))))
 obtain ⟨al, c4, hm⟩ := gx_bind hm
 refine wC 183 #[.agg #[.slice X H.Slots.length U, .slice Y H.Waiting.length V]] ((c_s_l9Own bt H X U (cl.mem0 af) Y V (cm.mem0 af) c4).mono ?_)
 rintro e_ d8 ⟨a0, au, de, a3, av, df, rfl, cu, cv, bw⟩
 have b4 := af.call bw
 refine ⟨_, rfl, ?_⟩
 refine wN (.cells ⟨[.slice none 0 0, .slice none 0 0]⟩ 85 (0, 0)) b4 ?_
 intro l d9 b5
 refine wS true 2 0 (.agg #[.slice a0 al.Slots.length au, .slice a3 al.Waiting.length av]) 4 [.slice a0 al.Slots.length au, .slice a3 al.Waiting.length av] b5 rfl ?_
 intro ea b6
 refine W_nil (N_then (G_seq ?_))
 obtain ⟨u, da, ct⟩ := gx_bind hm
 refine G_meet (fun a w' => ∃ (N : Option Addr), ∃ (I : Nat), ∃ (an : Seg), ∃ (O : Option Addr), ∃ (J : Nat), ∃ (ao : Seg), ownS encSlot u.1 N I an ∧ ownS encWaiter u.2 O J ao ∧ Mem [] w w' [[(q, .cells ⟨[.slice none 0 0, .slice none 0 0]⟩ 85 (0, 0))], [(l, .cells ⟨[.slice N u.1.length I, .slice O u.2.length J]⟩ 85 (0, 0))], an, ao] ∧ Sat Tryz.f224.ntmps [(2, pB q 0), (3, pB l 0)] a) ?_ ?_
 ·refine G_block (G_while (σ := List Slot × List Waiter) (ρ := List Slot × List Waiter) (fun d a w' => ∃ (c : Option Addr), ∃ (n : Nat), ∃ (Z : Seg), ∃ (G : Option Addr), ∃ (F : Nat), ∃ (aa : Seg), ownS encSlot d.1 c n Z ∧ ownS encWaiter d.2 G F aa ∧ Mem [] w w' [[(q, .cells ⟨[.slice none 0 0, .slice none 0 0]⟩ 85 (0, 0))], [(l, .cells ⟨[.slice c d.1.length n, .slice G d.2.length F]⟩ 85 (0, 0))], Z, aa] ∧ Sat Tryz.f224.ntmps [(2, pB q 0), (3, pB l 0)] a) da (fun a ha => ⟨a0, au, de, a3, av, df, cu, cv, b6.pk [1, 4, 2, 3], ha.s⟩) ?_)
  clear hm
  intro d ef hm c3 d2 bu ⟨c, n, Z, G, F, aa, L, W, ag, cn⟩
  refine G_use cn (G_seq (G_seq (G_region (wV (.agg #[.slice c d.1.length n, .slice G d.2.length F]) bu (eL true 2 0 (ag.blk 1 rfl)) ?_))))
  obtain ⟨dc, c5, hm⟩ := gx_bind hm
  refine wC 190 #[.agg #[.slice c d.1.length n, .slice G d.2.length F]] ((c_s_l9Settled bu (⟨d.1, d.2⟩ : Queue) c n (L.rd ag 2 (by kernel_rfl)) G F (W.rd ag 3 (by kernel_rfl)) c5).mono ?_)
  rintro e_ ad ⟨rfl, bx⟩
  have ab := ag.call0 bx
  refine ⟨_, rfl, ?_⟩
  refine wR 1 [(2, pB q 0), (3, pB l 0), (11, .bool (!dc))] ad (W_nil (N_then ?_))
  rcases gx_bif hm with ⟨aw, hm⟩ | ⟨aw, hm⟩
  ·refine gT aw (G_skip (N_then (G_block (G_seq (G_region (wR 1 [(2, pB q 0), (3, pB l 0), (12, pB l 1)] ad (wV (.slice G d.2.length F) ad (eL false 1 1 (ab.blk 1 rfl)) ?_)))))))
   obtain ⟨t, bl, hm⟩ := gx_bind hm
   refine wV (elemP G ((0 : Int).toNat * 2)) ad (eI (W.rd ab 3 (by kernel_rfl)) rfl bl) (wV (.agg #[iv t.Irq, iv t.Priority]) ad (eE true 2 0 ((0 : Int).toNat * 2) (W.rd ab 3 (by kernel_rfl)) bl) (wN (.cells ⟨[iv 0, iv 0]⟩ 142 (0, 0)) ab ?_))
   intro x eb b7
   refine wS true 2 0 (.agg #[iv t.Irq, iv t.Priority]) 4 [iv t.Irq, iv t.Priority] b7 rfl ?_
   intro ec b8
   refine W_nil (N_then (G_seq (G_region (wL (E := encWaiter) ([] : List Waiter) 0 [] 142 b8 ?_))))
   intro db ck d6 a5 cy ah
   refine wR 1 [(2, pB q 0), (3, pB l 0), (4, pB x 0), (16, .slice db ([] : List Waiter).length ck), (17, pB l 1)] a5 (wV (.slice G d.2.length F) a5 (eL false 1 1 (ah.blk 1 rfl)) ?_)
   obtain ⟨d1, bm, hm⟩ := gx_bind hm
   refine wV (.slice (subP G (1 : Int).toNat F 2) d1.length (F - (1 : Int).toNat)) a5 (E_slice (E := encWaiter) _ _ _ _ d.2.length 1 (d.2.length : Int) rfl (by kernel_rfl) (Or.inr ⟨_, rfl, by kernel_rfl⟩) (Or.inl ⟨rfl, rfl⟩) (by kernel_rfl) (W.rd ah 3 (by kernel_rfl)) rfl bm) ?_
   obtain ⟨D, cq, hm⟩ := gx_bind hm
   refine wA 16 [iv 0, iv 0] 5 ah cy ((W.rd ah 3 (by kernel_rfl)).sliceM bm) cq ?_
   intro C z bs aq bk ar
   refine wR 1 [(2, pB q 0), (3, pB l 0), (4, pB x 0), (5, .slice C D.length z)] aq (W_nil (N_then (G_seq (G_region (wR 1 [(2, pB q 0), (3, pB l 0), (4, pB x 0), (5, .slice C D.length z), (21, pB l 0)] aq (wV (.slice c d.1.length n) aq (eL false 1 0 (ar.blk 1 rfl)) ?_))))))
   obtain ⟨am, c6, hm⟩ := gx_bind hm
   refine wC 235 #[.slice c d.1.length n] ((c_s_l8Free aq d.1 c n (L.rd ar 2 (by kernel_rfl)) c6).mono ?_)
   rintro e_ ae ⟨rfl, bz⟩
   have ai := ar.call0 bz
   refine ⟨_, rfl, ?_⟩
   refine wR 1 [(2, pB q 0), (3, pB l 0), (4, pB x 0), (5, .slice C D.length z), (6, iv am)] ae (W_nil (N_then (G_seq (G_seq (G_region (wR 2 [(2, pB q 0), (3, pB l 0), (4, pB x 0), (5, .slice C D.length z), (6, iv am), (25, .bool (decide (am < 0)))] ae (W_nil (N_then ?_))))))))
   obtain ⟨y, cz, cr⟩ := gx_bind hm
   refine G_meet (fun a w' => ∃ (P : Option Addr), ∃ (K : Nat), ∃ (ap : Seg), ownS encWaiter y.1 P K ap ∧ Mem [] w w' [[(q, .cells ⟨[.slice none 0 0, .slice none 0 0]⟩ 85 (0, 0))], [(l, .cells ⟨[.slice c d.1.length n, .slice G d.2.length F]⟩ 85 (0, 0))], Z, aa, [(x, .cells ⟨[iv t.Irq, iv t.Priority]⟩ 142 (0, 0))], ap] ∧ Sat Tryz.f224.ntmps [(2, pB q 0), (3, pB l 0), (4, pB x 0), (5, .slice P y.1.length K), (6, iv y.2)] a) ?_ ?_
   ·have hm := cz
    rcases gx_bif hm with ⟨ax, hm⟩ | ⟨ax, hm⟩
    ·refine gT ax (G_seq (G_region (wR 1 [(2, pB q 0), (3, pB l 0), (4, pB x 0), (5, .slice C D.length z), (6, iv am), (26, pB l 0)] ae (wV (.slice c d.1.length n) ae (eL false 1 0 (ai.blk 1 rfl)) ?_))))
     obtain ⟨m, c7, hm⟩ := gx_bind hm
     refine wC 236 #[.slice c d.1.length n, .bool false] ((c_s_l8Best ae d.1 c n (L.rd ai 2 (by kernel_rfl)) false c7).mono ?_)
     rintro e_ di ⟨rfl, b0⟩
     have b9 := ai.call0 b0
     refine ⟨_, rfl, ?_⟩
     refine wR 1 [(2, pB q 0), (3, pB l 0), (4, pB x 0), (5, .slice C D.length z), (6, iv m)] di (W_nil (N_then ?_))
     obtain ⟨Q, ay, hm⟩ := gx_bind hm
     obtain ⟨S, az, hm⟩ := gx_bind hm
     refine G_sub [(2, pB q 0), (3, pB l 0), (4, pB x 0), (5, .slice C D.length z), (6, iv m)] (by kernel_rfl) (G_dagL 14 [[], [], [1], [], [2, 3], [4], [5], [], [7], [], [8, 9], [10], [11], [6, 12]] [[], [], [], [], [], [], [], [], [], [], [], [], [], []] [[], [], [], [], [], [], [], [], [], [], [], [], [], []] [[], [], [], [], [], [], [], [], [], [], [], [], [], []] [[], [], [], [], [], [], [], [], [], [], [], [], [], []] [[], [], [], [], [], [], [], [], [], [], [], [], [], []] (fun _ => []) (fun i => ([fun f v s => v = (.slice C D.length z : Value) ∧ s = [], fun f v s => v = (pB l 0 : Value) ∧ s = [], fun f v s => v = (.slice c d.1.length n : Value) ∧ s = [], fun f v s => v = (iv m : Value) ∧ s = [], fun f v s => v = (elemP c (m.toNat * 3) : Value) ∧ s = [], fun f v s => v = (elemP c (m.toNat * 3 + 1) : Value) ∧ s = [], fun f v s => v = (iv Q.Irq : Value) ∧ s = [], fun f v s => v = (pB l 0 : Value) ∧ s = [], fun f v s => v = (.slice c d.1.length n : Value) ∧ s = [], fun f v s => v = (iv m : Value) ∧ s = [], fun f v s => v = (elemP c (m.toNat * 3) : Value) ∧ s = [], fun f v s => v = (elemP c (m.toNat * 3 + 2) : Value) ∧ s = [], fun f v s => v = (iv S.Priority : Value) ∧ s = [], fun f v s => v = (.agg #[iv Q.Irq, iv S.Priority] : Value) ∧ s = []] : List ((Nat → Value) → Value → Seg → Prop)).getD i (fun _ _ _ => False)) (fun j f v => ∃ s, (fun i => ([fun f v s => v = (.slice C D.length z : Value) ∧ s = [], fun f v s => v = (pB l 0 : Value) ∧ s = [], fun f v s => v = (.slice c d.1.length n : Value) ∧ s = [], fun f v s => v = (iv m : Value) ∧ s = [], fun f v s => v = (elemP c (m.toNat * 3) : Value) ∧ s = [], fun f v s => v = (elemP c (m.toNat * 3 + 1) : Value) ∧ s = [], fun f v s => v = (iv Q.Irq : Value) ∧ s = [], fun f v s => v = (pB l 0 : Value) ∧ s = [], fun f v s => v = (.slice c d.1.length n : Value) ∧ s = [], fun f v s => v = (iv m : Value) ∧ s = [], fun f v s => v = (elemP c (m.toNat * 3) : Value) ∧ s = [], fun f v s => v = (elemP c (m.toNat * 3 + 2) : Value) ∧ s = [], fun f v s => v = (iv S.Priority : Value) ∧ s = [], fun f v s => v = (.agg #[iv Q.Irq, iv S.Priority] : Value) ∧ s = []] : List ((Nat → Value) → Value → Seg → Prop)).getD i (fun _ _ _ => False)) j f v s) [] [0, 13] [] (fun _ _ _ s h => ⟨s, h⟩) (by kernel_rfl) (by kernel_rfl) (b9.preNil 14) (by kernel_rfl) (by kernel_rfl) (by kernel_rfl) (by kernel_rfl) (allOb_cons ?_ (allOb_cons ?_ (allOb_cons ?_ (allOb_cons ?_ (allOb_cons ?_ (allOb_cons ?_ (allOb_cons ?_ (allOb_cons ?_ (allOb_cons ?_ (allOb_cons ?_ (allOb_cons ?_ (allOb_cons ?_ (allOb_cons ?_ (allOb_cons ?_ allOb_nil)))))))))))))) ?_)
     ·intro B A
      intro R dj ca
      exact wR 1 [(29, .slice C D.length z)] dj (W_nil (oE (.slice C D.length z) [] ⟨by kernel_rfl, rfl⟩ ca))
     ·intro B A
      intro R dk cb
      exact wR 1 [(30, pB l 0)] dk (W_nil (oE (pB l 0) [] ⟨by kernel_rfl, rfl⟩ cb))
     ·intro B A
      intro v1_ hb1_
      obtain ⟨rfl, _⟩ := hb1_
      intro R dl a6
      exact wV (.slice c d.1.length n) dl (eL false 1 0 (a6.blk 1 rfl)) (W_nil (oE (.slice c d.1.length n) [] ⟨by kernel_rfl, rfl⟩ a6))
     ·intro B A
      intro R dm cc
      exact wR 1 [(32, iv m)] dm (W_nil (oE (iv m) [] ⟨by kernel_rfl, rfl⟩ cc))
     ·intro B A
      intro v2_ hb2_
      obtain ⟨rfl, _⟩ := hb2_
      intro v3_ hb3_
      obtain ⟨rfl, _⟩ := hb3_
      intro R dn a7
      exact wV (elemP c (m.toNat * 3)) dn (eI (L.rd a7 2 (by kernel_rfl)) rfl ay) (W_nil (oE (elemP c (m.toNat * 3)) [] ⟨by kernel_rfl, rfl⟩ a7))
     ·intro B A
      intro v4_ hb4_
      obtain ⟨rfl, _⟩ := hb4_
      intro R dp a8
      exact wV (elemP c (m.toNat * 3 + 1)) dp (eF 1 (m.toNat * 3) 1 (L.rd a8 2 (by kernel_rfl)) ay) (W_nil (oE (elemP c (m.toNat * 3 + 1)) [] ⟨by kernel_rfl, rfl⟩ a8))
     ·intro B A
      intro v5_ hb5_
      obtain ⟨rfl, _⟩ := hb5_
      intro R dq a9
      exact wV (iv Q.Irq) dq (eE false 1 1 (m.toNat * 3 + 1) (L.rd a9 2 (by kernel_rfl)) ay) (W_nil (oE (iv Q.Irq) [] ⟨by kernel_rfl, rfl⟩ a9))
     ·intro B A
      intro R dr cd
      exact wR 1 [(36, pB l 0)] dr (W_nil (oE (pB l 0) [] ⟨by kernel_rfl, rfl⟩ cd))
     ·intro B A
      intro v7_ hb7_
      obtain ⟨rfl, _⟩ := hb7_
      intro R ds ba
      exact wV (.slice c d.1.length n) ds (eL false 1 0 (ba.blk 1 rfl)) (W_nil (oE (.slice c d.1.length n) [] ⟨by kernel_rfl, rfl⟩ ba))
     ·intro B A
      intro R dt ce
      exact wR 1 [(38, iv m)] dt (W_nil (oE (iv m) [] ⟨by kernel_rfl, rfl⟩ ce))
     ·intro B A
      intro v8_ hb8_
      obtain ⟨rfl, _⟩ := hb8_
      intro v9_ hb9_
      obtain ⟨rfl, _⟩ := hb9_
      intro R du bb
      exact wV (elemP c (m.toNat * 3)) du (eI (L.rd bb 2 (by kernel_rfl)) rfl az) (W_nil (oE (elemP c (m.toNat * 3)) [] ⟨by kernel_rfl, rfl⟩ bb))
     ·intro B A
      intro v10_ hb10_
      obtain ⟨rfl, _⟩ := hb10_
      intro R dv bc
      exact wV (elemP c (m.toNat * 3 + 2)) dv (eF 2 (m.toNat * 3) 2 (L.rd bc 2 (by kernel_rfl)) az) (W_nil (oE (elemP c (m.toNat * 3 + 2)) [] ⟨by kernel_rfl, rfl⟩ bc))
     ·intro B A
      intro v11_ hb11_
      obtain ⟨rfl, _⟩ := hb11_
      intro R dw bd
      exact wV (iv S.Priority) dw (eE false 1 2 (m.toNat * 3 + 2) (L.rd bd 2 (by kernel_rfl)) az) (W_nil (oE (iv S.Priority) [] ⟨by kernel_rfl, rfl⟩ bd))
     ·intro B A
      intro v6_ hb6_
      obtain ⟨rfl, _⟩ := hb6_
      intro v12_ hb12_
      obtain ⟨rfl, _⟩ := hb12_
      intro R dx cf
      exact wR 1 [(42, .agg #[iv Q.Irq, iv S.Priority])] dx (W_nil (oE (.agg #[iv Q.Irq, iv S.Priority]) [] ⟨by kernel_rfl, rfl⟩ cf))
     intro B A
     intro v0_ hb0_
     obtain ⟨rfl, _⟩ := hb0_
     intro v13_ hb13_
     obtain ⟨rfl, _⟩ := hb13_
     intro bv cg
     have be : Mem [] w bv [[(q, .cells ⟨[.slice none 0 0, .slice none 0 0]⟩ 85 (0, 0))], [(l, .cells ⟨[.slice c d.1.length n, .slice G d.2.length F]⟩ 85 (0, 0))], Z, aa, [(x, .cells ⟨[iv t.Irq, iv t.Priority]⟩ 142 (0, 0))], bs] := cg
     obtain ⟨dd, c8, hm⟩ := gx_bind hm
     refine wC 130 #[.slice C D.length z, .agg #[iv Q.Irq, iv S.Priority]] ((c_s_l9Wait bv D C z (bk.rd be 5 (by kernel_rfl)) (⟨Q.Irq, S.Priority⟩ : Waiter) c8).mono ?_)
     rintro e_ dy ⟨bp, bj, dg, rfl, c1, b1⟩
     have ch := be.call b1
     refine ⟨_, rfl, ?_⟩
     refine wR 1 [(2, pB q 0), (3, pB l 0), (4, pB x 0), (5, .slice bp dd.length bj), (6, iv m)] dy (W_nil ?_)
     obtain rfl := Option.some.inj hm
     exact N_meet fun a ha => ⟨bp, bj, dg, c1, ch.pk [0, 1, 2, 3, 4, 6], ha.s⟩
    refine gF ax (G_skip ?_)
    obtain rfl := Option.some.inj hm
    exact N_meet fun a ha => ⟨C, z, bs, bk, ai.pk [0, 1, 2, 3, 4, 5], ha.s⟩
   intro d3 T ⟨P, K, ap, c0, ac, co⟩
   refine N_use co ?_
   have hm := cr
   refine N_then (G_region (wR 1 [(2, pB q 0), (3, pB l 0), (4, pB x 0), (5, .slice P y.1.length K), (6, iv y.2), (44, pB l 0)] T (wV (.slice c d.1.length n) T (eL false 1 0 (ac.blk 1 rfl)) (wR 2 [(2, pB q 0), (3, pB l 0), (4, pB x 0), (5, .slice P y.1.length K), (45, .slice c d.1.length n), (46, iv y.2), (47, pB x 0)] T (wV (iv t.Irq) T (eL false 1 0 (ac.blk 4 rfl)) (wR 1 [(2, pB q 0), (3, pB l 0), (5, .slice P y.1.length K), (45, .slice c d.1.length n), (46, iv y.2), (48, iv t.Irq), (49, pB x 1)] T (wV (iv t.Priority) T (eL false 1 1 (ac.blk 4 rfl)) (wR 1 [(2, pB q 0), (3, pB l 0), (5, .slice P y.1.length K), (45, .slice c d.1.length n), (46, iv y.2), (51, .agg #[iv 1, iv t.Irq, iv t.Priority])] T ?_))))))))
   obtain ⟨a4, c9, hm⟩ := gx_bind hm
   refine wC 251 #[.slice c d.1.length n, iv y.2, .agg #[iv 1, iv t.Irq, iv t.Priority]] ((c_s_l8With T d.1 c n (L.rd ac 2 (by kernel_rfl)) y.2 (⟨1, t.Irq, t.Priority⟩ : Slot) c9).mono ?_)
   rintro e_ dz ⟨ak, aj, dh, rfl, c2, b2⟩
   have ci := ac.call b2
   refine ⟨_, rfl, ?_⟩
   refine wR 2 [(2, pB q 0), (3, pB l 0), (54, .agg #[.slice ak a4.length aj, .slice P y.1.length K])] dz (wS true 2 0 (.agg #[.slice ak a4.length aj, .slice P y.1.length K]) 1 [.slice ak a4.length aj, .slice P y.1.length K] ci rfl ?_)
   intro ed cj
   refine W_nil (N_block ?_)
   obtain rfl := Option.some.inj hm
   exact N_loop fun a ha => ⟨_, rfl, ak, aj, dh, P, K, ap, c2, c0, cj.pk [0, 1, 6, 5], ha.s⟩
  refine gF aw (G_exit (N_then_exit (N_then_exit (N_block_eq ?_))))
  obtain rfl := Option.some.inj hm
  obtain rfl := c3 _ rfl
  exact N_meet fun a ha => ⟨c, n, Z, G, F, aa, L, W, ab.pk [0, 1, 2, 3], ha.s⟩
 intro d4 d0 ⟨N, I, an, O, J, ao, cw, cx, bf, cp⟩
 refine N_use cp ?_
 have hm := ct
 refine N_then (G_seq (G_region (wV (.agg #[.slice N u.1.length I, .slice O u.2.length J]) d0 (eL true 2 0 (bf.blk 1 rfl)) (wS true 2 0 (.agg #[.slice N u.1.length I, .slice O u.2.length J]) 0 [.slice N u.1.length I, .slice O u.2.length J] bf rfl ?_))))
 intro ee bg
 refine W_nil (N_then (G_ret ?_))
 obtain rfl := Option.some.inj hm
 exact N_ret [.agg #[.slice N u.1.length I, .slice O u.2.length J]] (RVs_cons (RV_cell (g := true) (k := 2) (b := q) (off := 0) (cs := [.slice N u.1.length I, .slice O u.2.length J]) (e := 85) (fr := (0, 0)) (v := .agg #[.slice N u.1.length I, .slice O u.2.length J]) (bg.blk 0 (b := q) (o := .cells ⟨[.slice N u.1.length I, .slice O u.2.length J]⟩ 85 (0, 0)) (by kernel_rfl)) (by kernel_rfl) (by kernel_rfl) (by kernel_rfl)) RVs_nil) (⟨N, I, an, O, J, ao, rfl, cw, cx, bg.pk [2, 3]⟩)
theorem c_s_l9Has (w : World) (d : List Waiter) (c : Option Addr) (f : Nat) (j : rdS encWaiter w d c f) (g : Int) {r : Int} (hm : M.s_l9Has d g = some r) :
  Calls Tryz.prog 225 #[.slice c d.length f, iv g] w fun e w' => e = .returned (iv r) ∧ Mem [] w w' [] := by
 unfold M.s_l9Has at hm
 refine cE Tryz.func225 ?_
 have M0 := Mem.refl [] w
 refine G_seq (G_region (wR 1 [(0, .slice c d.length f), (1, iv g)] w (W_nil (N_then (G_seq (G_seq (G_region (wR 1 [(0, .slice c d.length f), (1, iv g), (5, iv 0)] w (W_nil (N_then ?_))))))))))
 obtain ⟨z, y, n⟩ := gx_bind hm
 refine G_meet (fun a w' => ∃ (q : Unit), z = .inl q ∧ Mem [] w w' [] ∧ Sat Tryz.f225.ntmps [] a) ?_ ?_
 ·refine G_block (G_while (σ := Int) (ρ := (Unit) ⊕ (Int)) (fun b a w' => Mem [] w w' [] ∧ Sat Tryz.f225.ntmps [(0, .slice c d.length f), (1, iv g), (5, iv b)] a) y (fun a ha => ⟨M0.pk [], ha.s⟩) ?_)
  clear hm
  intro b D hm o B h ⟨i, v⟩
  refine G_use v (G_seq (G_seq (G_region (wR 4 [(0, .slice c d.length f), (1, iv g), (5, iv b), (9, .bool (decide (b < (d.length : Int))))] h (W_nil (N_then ?_))))))
  rcases gx_bif hm with ⟨k, hm⟩ | ⟨k, hm⟩
  ·refine gT k (G_skip (N_then (G_seq (G_block (G_seq (G_region (wR 2 [(0, .slice c d.length f), (1, iv g), (5, iv b), (12, .slice c d.length f), (13, iv b)] h ?_)))))))
   obtain ⟨t, m, hm⟩ := gx_bind hm
   refine wV (elemP c (b.toNat * 2)) h (eI (j.mem0 i) rfl m) (wV (elemP c (b.toNat * 2 + 0)) h (eF 0 (b.toNat * 2) 0 (j.mem0 i) m) (wV (iv t.Irq) h (eE false 1 0 (b.toNat * 2 + 0) (j.mem0 i) m) (wR 2 [(0, .slice c d.length f), (1, iv g), (5, iv b), (18, .bool (t.Irq == g))] h (W_nil (N_then ?_)))))
   rcases gx_bif hm with ⟨l, hm⟩ | ⟨l, hm⟩
   ·refine gT l (G_seq (G_region (wR 2 [(4, iv b)] h (W_nil (N_then (G_ret (N_block_ret (N_then_ret (N_then_ret ?_)))))))))
    obtain rfl := Option.some.inj hm
    obtain rfl := o _ rfl
    have hm := n; simp only [Sum.elim_inr] at hm
    refine N_block_ret (N_meet_ret (N_then_ret ?_))
    obtain rfl := Option.some.inj hm
    exact N_ret [iv b] (rC RVs_nil) (⟨rfl, i.pk []⟩)
   refine gF l (G_skip (N_block (N_then (G_region (wR 3 [(0, .slice c d.length f), (1, iv g), (5, iv (w64 (b + 1)))] h (W_nil ?_))))))
   obtain rfl := Option.some.inj hm
   exact N_loop fun a ha => ⟨_, rfl, i.pk [], ha.s⟩
  refine gF k (G_exit (N_then_exit (N_then_exit (N_block_eq ?_))))
  obtain rfl := Option.some.inj hm
  obtain rfl := o _ rfl
  exact N_meet fun a ha => ⟨_, rfl, i.pk [], ha.s⟩
 intro C A ⟨q, hout_, u, x⟩
 refine N_use x ?_
 subst hout_
 have hm := n; simp only [Sum.elim_inl] at hm
 refine N_then (G_seq (G_region (wR 1 [(4, iv (-1))] A (W_nil (N_then (G_ret ?_))))))
 obtain rfl := Option.some.inj hm
 exact N_ret [iv (-1)] (rC RVs_nil) (⟨rfl, u.pk []⟩)
theorem c_s_l9Offer (w : World) (a : Queue) (n : Option Addr) (m : Nat) (ab : rdS encSlot w a.Slots n m) (t : Option Addr) (q : Nat) (ac : rdS encWaiter w a.Waiting t q) (c : Int) (l : Int) {r : Queue} (hm : M.s_l9Offer a c l = some r) :
  Calls Tryz.prog 172 #[.agg #[.slice n a.Slots.length m, .slice t a.Waiting.length q], iv c, iv l] w fun e w' => ∃ (av : Option Addr) (ar : Nat) (ay : Seg), ∃ (aw : Option Addr) (au : Nat) (az : Seg), e = .returned (.agg #[.slice av r.Slots.length ar, .slice aw r.Waiting.length au]) ∧ ownS encSlot r.Slots av ar ay ∧ ownS encWaiter r.Waiting aw au az ∧ Mem [] w w' [ay, az] := by
 unfold M.s_l9Offer at hm
 refine cE Tryz.func172 ?_
 have M0 := Mem.refl [] w
 refine G_seq (G_region (wN (.cells ⟨[.slice n a.Slots.length m, .slice t a.Waiting.length q]⟩ 85 (0, 0)) M0 ?_))
 intro d cf a9
 refine wN (.cells ⟨[.slice none 0 0, .slice none 0 0]⟩ 85 (0, 0)) a9 ?_
 intro u ad ae
 refine W_nil (N_then (G_seq (G_seq (G_region (wR 1 [(1, iv c), (2, iv l), (3, pB d 0), (6, pB u 0), (9, pB d 0)] ad (wV (.slice n a.Slots.length m) ad (eL false 1 0 (ae.blk 0 rfl)) (wR 1 [(1, iv c), (2, iv l), (3, pB d 0), (6, pB u 0), (10, .slice n a.Slots.length m), (11, iv c)] ad ?_)))))))
 obtain ⟨bx, bq, hm⟩ := gx_bind hm
 refine wC 192 #[.slice n a.Slots.length m, iv c] ((c_s_l8Find ad a.Slots n m (ab.mem0 ae) c bq).mono ?_)
 rintro e_ D ⟨rfl, a0⟩
 have U := ae.call0 a0
 refine ⟨_, rfl, ?_⟩
 refine wR 1 [(1, iv c), (2, iv l), (3, pB d 0), (6, pB u 0), (13, .bool (decide (bx ≥ 0)))] D (W_nil (N_then ?_))
 rcases gx_bif hm with ⟨ag, hm⟩ | ⟨ag, hm⟩
 ·refine gT ag (G_seq (G_region (wR 1 [(1, iv c), (2, iv l), (3, pB d 0), (6, pB u 0), (15, pB d 0)] D (wV (.slice n a.Slots.length m) D (eL false 1 0 (U.blk 0 rfl)) (wR 2 [(3, pB d 0), (6, pB u 0), (16, .slice n a.Slots.length m), (17, iv c), (18, iv l)] D ?_)))))
  obtain ⟨Y, br, hm⟩ := gx_bind hm
  refine wC 223 #[.slice n a.Slots.length m, iv c, iv l] ((c_s_l8Put D a.Slots n m (ab.mem0 U) c l br).mono ?_)
  rintro e_ Z ⟨X, W, ce, rfl, bj, a3⟩
  have aa := U.call a3
  refine ⟨_, rfl, ?_⟩
  refine wR 5 [(3, pB d 0), (6, pB u 0), (7, .slice X Y.1.length W)] Z (W_nil (N_then (G_seq (G_region (wR 2 [(6, pB u 0), (22, .slice X Y.1.length W), (23, pB d 1)] Z (wV (.slice t a.Waiting.length q) Z (eL false 1 1 (aa.blk 0 rfl)) (wR 1 [(6, pB u 0), (25, .agg #[.slice X Y.1.length W, .slice t a.Waiting.length q])] Z ?_)))))))
  obtain ⟨z, bs, hm⟩ := gx_bind hm
  refine wC 224 #[.agg #[.slice X Y.1.length W, .slice t a.Waiting.length q]] ((c_s_l9Settle Z (⟨Y.1, a.Waiting⟩ : Queue) X W (bj.rd aa 2 (by kernel_rfl)) t q (ac.mem0 aa) bs).mono ?_)
  rintro e_ cg ⟨N, G, bz, O, H, b0, rfl, bk, bl, a4⟩
  have ba := aa.call a4
  refine ⟨_, rfl, ?_⟩
  refine wS true 2 0 (.agg #[.slice N z.Slots.length G, .slice O z.Waiting.length H]) 1 [.slice N z.Slots.length G, .slice O z.Waiting.length H] ba rfl ?_
  intro ch al
  refine W_nil (N_then (G_ret (N_then_ret ?_)))
  obtain rfl := Option.some.inj hm
  exact N_ret [.agg #[.slice N z.Slots.length G, .slice O z.Waiting.length H]] (RVs_cons (RV_cell (g := true) (k := 2) (b := u) (off := 0) (cs := [.slice N z.Slots.length G, .slice O z.Waiting.length H]) (e := 85) (fr := (0, 0)) (v := .agg #[.slice N z.Slots.length G, .slice O z.Waiting.length H]) (al.blk 1 (b := u) (o := .cells ⟨[.slice N z.Slots.length G, .slice O z.Waiting.length H]⟩ 85 (0, 0)) (by kernel_rfl)) (by kernel_rfl) (by kernel_rfl) (by kernel_rfl)) RVs_nil) (⟨N, G, bz, O, H, b0, rfl, bk, bl, al.pk [3, 4]⟩)
 refine gF ag (G_skip (N_then (G_seq (G_seq (G_region (wR 1 [(1, iv c), (2, iv l), (3, pB d 0), (6, pB u 0), (27, pB d 1)] D (wV (.slice t a.Waiting.length q) D (eL false 1 1 (U.blk 0 rfl)) (wR 1 [(1, iv c), (2, iv l), (3, pB d 0), (6, pB u 0), (28, .slice t a.Waiting.length q), (29, iv c)] D ?_))))))))
 obtain ⟨ax, bt, hm⟩ := gx_bind hm
 refine wC 225 #[.slice t a.Waiting.length q, iv c] ((c_s_l9Has D a.Waiting t q (ac.mem0 U) c bt).mono ?_)
 rintro e_ aj ⟨rfl, a5⟩
 have V := U.call0 a5
 refine ⟨_, rfl, ?_⟩
 refine wR 1 [(1, iv c), (2, iv l), (3, pB d 0), (6, pB u 0), (31, .bool (decide (ax ≥ 0)))] aj (W_nil (N_then ?_))
 rcases gx_bif hm with ⟨ah, hm⟩ | ⟨ah, hm⟩
 ·refine gT ah (G_seq (G_region (wV (.agg #[.slice n a.Slots.length m, .slice t a.Waiting.length q]) aj (eL true 2 0 (V.blk 0 rfl)) ?_)))
  obtain ⟨A, bu, hm⟩ := gx_bind hm
  refine wC 224 #[.agg #[.slice n a.Slots.length m, .slice t a.Waiting.length q]] ((c_s_l9Settle aj a n m (ab.mem0 V) t q (ac.mem0 V) bu).mono ?_)
  rintro e_ ci ⟨P, I, b1, Q, J, b2, rfl, bm, bn, a6⟩
  have bb := V.call a6
  refine ⟨_, rfl, ?_⟩
  refine wS true 2 0 (.agg #[.slice P A.Slots.length I, .slice Q A.Waiting.length J]) 1 [.slice P A.Slots.length I, .slice Q A.Waiting.length J] bb rfl ?_
  intro cj am
  refine W_nil (N_then (G_ret (N_then_ret ?_)))
  obtain rfl := Option.some.inj hm
  exact N_ret [.agg #[.slice P A.Slots.length I, .slice Q A.Waiting.length J]] (RVs_cons (RV_cell (g := true) (k := 2) (b := u) (off := 0) (cs := [.slice P A.Slots.length I, .slice Q A.Waiting.length J]) (e := 85) (fr := (0, 0)) (v := .agg #[.slice P A.Slots.length I, .slice Q A.Waiting.length J]) (am.blk 1 (b := u) (o := .cells ⟨[.slice P A.Slots.length I, .slice Q A.Waiting.length J]⟩ 85 (0, 0)) (by kernel_rfl)) (by kernel_rfl) (by kernel_rfl) (by kernel_rfl)) RVs_nil) (⟨P, I, b1, Q, J, b2, rfl, bm, bn, am.pk [2, 3]⟩)
 refine gF ah (G_skip (N_then (G_seq ?_)))
 obtain ⟨F, bv, hm⟩ := gx_bind hm
 refine G_sub [(1, iv c), (2, iv l), (3, pB d 0), (6, pB u 0), (31, .bool (decide (ax ≥ 0)))] (by kernel_rfl) (G_dagL 8 [[], [0], [], [2], [], [], [4, 5], [3, 6]] [[], [], [], [], [], [], [], []] [[], [], [], [], [], [], [], []] [[], [], [], [], [], [], [], []] [[], [], [], [], [], [], [], []] [[], [], [], [], [], [], [], []] (fun _ => []) (fun i => ([fun f v s => v = (pB d 0 : Value) ∧ s = [], fun f v s => v = (.slice n a.Slots.length m : Value) ∧ s = [], fun f v s => v = (pB d 1 : Value) ∧ s = [], fun f v s => v = (.slice t a.Waiting.length q : Value) ∧ s = [], fun f v s => v = (iv c : Value) ∧ s = [], fun f v s => v = (iv l : Value) ∧ s = [], fun f v s => v = (.agg #[iv c, iv l] : Value) ∧ s = [], fun f v s => ∃ (y : Option Addr) (x : Nat), v = (.slice y F.length x : Value) ∧ ownS encWaiter F y x s] : List ((Nat → Value) → Value → Seg → Prop)).getD i (fun _ _ _ => False)) (fun j f v => ∃ s, (fun i => ([fun f v s => v = (pB d 0 : Value) ∧ s = [], fun f v s => v = (.slice n a.Slots.length m : Value) ∧ s = [], fun f v s => v = (pB d 1 : Value) ∧ s = [], fun f v s => v = (.slice t a.Waiting.length q : Value) ∧ s = [], fun f v s => v = (iv c : Value) ∧ s = [], fun f v s => v = (iv l : Value) ∧ s = [], fun f v s => v = (.agg #[iv c, iv l] : Value) ∧ s = [], fun f v s => ∃ (y : Option Addr) (x : Nat), v = (.slice y F.length x : Value) ∧ ownS encWaiter F y x s] : List ((Nat → Value) → Value → Seg → Prop)).getD i (fun _ _ _ => False)) j f v s) [] [1, 7] [7] (fun _ _ _ s h => ⟨s, h⟩) (by kernel_rfl) (by kernel_rfl) (V.preNil 8) (by kernel_rfl) (by kernel_rfl) (by kernel_rfl) (by kernel_rfl) (allOb_cons ?_ (allOb_cons ?_ (allOb_cons ?_ (allOb_cons ?_ (allOb_cons ?_ (allOb_cons ?_ (allOb_cons ?_ (allOb_cons ?_ allOb_nil)))))))) ?_)
 ·intro C E
  intro R b6 bc
  exact wR 1 [(34, pB d 0)] b6 (W_nil (oE (pB d 0) [] ⟨by kernel_rfl, rfl⟩ bc))
 ·intro C E
  intro v0_ hb0_
  obtain ⟨rfl, _⟩ := hb0_
  intro R b7 an
  exact wV (.slice n a.Slots.length m) b7 (eL false 1 0 (an.blk 0 rfl)) (W_nil (oE (.slice n a.Slots.length m) [] ⟨by kernel_rfl, rfl⟩ an))
 ·intro C E
  intro R b8 bd
  exact wR 1 [(36, pB d 1)] b8 (W_nil (oE (pB d 1) [] ⟨by kernel_rfl, rfl⟩ bd))
 ·intro C E
  intro v2_ hb2_
  obtain ⟨rfl, _⟩ := hb2_
  intro R b9 ao
  exact wV (.slice t a.Waiting.length q) b9 (eL false 1 1 (ao.blk 0 rfl)) (W_nil (oE (.slice t a.Waiting.length q) [] ⟨by kernel_rfl, rfl⟩ ao))
 ·intro C E
  intro R ca be
  exact wR 1 [(38, iv c)] ca (W_nil (oE (iv c) [] ⟨by kernel_rfl, rfl⟩ be))
 ·intro C E
  intro R cb bf
  exact wR 1 [(39, iv l)] cb (W_nil (oE (iv l) [] ⟨by kernel_rfl, rfl⟩ bf))
 ·intro C E
  intro v4_ hb4_
  obtain ⟨rfl, _⟩ := hb4_
  intro v5_ hb5_
  obtain ⟨rfl, _⟩ := hb5_
  intro R cc bg
  exact wR 1 [(40, .agg #[iv c, iv l])] cc (W_nil (oE (.agg #[iv c, iv l]) [] ⟨by kernel_rfl, rfl⟩ bg))
 ·intro C E
  intro v3_ hb3_
  obtain ⟨rfl, _⟩ := hb3_
  intro v6_ hb6_
  obtain ⟨rfl, _⟩ := hb6_
  intro R cd ap
  refine wC 130 #[.slice t a.Waiting.length q, .agg #[iv c, iv l]] ((c_s_l9Wait cd a.Waiting t q (ac.mem0 ap) (⟨c, l⟩ : Waiter) bv).mono ?_)
  rintro e_ ck ⟨y, x, b3, rfl, ai, a7⟩
  refine ⟨_, rfl, ?_⟩
  exact W_nil (oE (.slice y F.length x) b3 ⟨y, x, rfl, ai⟩ (Mem.callMid ap a7))
 intro C E
 intro v1_ hb1_
 obtain ⟨rfl, _⟩ := hb1_
 intro v7_ hb7_
 obtain ⟨y, x, rfl, ai⟩ := hb7_
 intro ak bh
 have af : Mem [] w ak [[(d, .cells ⟨[.slice n a.Slots.length m, .slice t a.Waiting.length q]⟩ 85 (0, 0))], [(u, .cells ⟨[.slice none 0 0, .slice none 0 0]⟩ 85 (0, 0))], (C 7)] := bh
 refine wR 1 [(6, pB u 0), (42, .agg #[.slice n a.Slots.length m, .slice y F.length x])] ak ?_
 obtain ⟨B, bw, hm⟩ := gx_bind hm
 refine wC 224 #[.agg #[.slice n a.Slots.length m, .slice y F.length x]] ((c_s_l9Settle ak (⟨a.Slots, F⟩ : Queue) n m (ab.mem0 af) y x (ai.rd af 2 (by kernel_rfl)) bw).mono ?_)
 rintro e_ cl ⟨S, K, b4, T, L, b5, rfl, bo, bp, a8⟩
 have bi := af.call a8
 refine ⟨_, rfl, ?_⟩
 refine wS true 2 0 (.agg #[.slice S B.Slots.length K, .slice T B.Waiting.length L]) 1 [.slice S B.Slots.length K, .slice T B.Waiting.length L] bi rfl ?_
 intro cm aq
 refine W_nil (N_then (G_ret ?_))
 obtain rfl := Option.some.inj hm
 exact N_ret [.agg #[.slice S B.Slots.length K, .slice T B.Waiting.length L]] (RVs_cons (RV_cell (g := true) (k := 2) (b := u) (off := 0) (cs := [.slice S B.Slots.length K, .slice T B.Waiting.length L]) (e := 85) (fr := (0, 0)) (v := .agg #[.slice S B.Slots.length K, .slice T B.Waiting.length L]) (aq.blk 1 (b := u) (o := .cells ⟨[.slice S B.Slots.length K, .slice T B.Waiting.length L]⟩ 85 (0, 0)) (by kernel_rfl)) (by kernel_rfl) (by kernel_rfl) (by kernel_rfl)) RVs_nil) (⟨S, K, b4, T, L, b5, rfl, bo, bp, aq.pk [3, 4]⟩)
theorem c_s_l10Raise (w : World) (a : Interface) (B : Option Addr) (y : Nat) (ar : rdS Gx.encI w a.Stack B y) (C : Option Addr) (z : Nat) (au : rdS encSlot w a.Queue.Slots C z) (D : Option Addr) (A : Nat) (av : rdS encWaiter w a.Queue.Waiting D A) (I : Int) (J : Int) {r : Interface} (hm : M.s_l10Raise a I J = some r) :
  Calls Tryz.prog 132 #[.agg #[iv a.Mask, .slice B a.Stack.length y, .slice C a.Queue.Slots.length z, .slice D a.Queue.Waiting.length A], iv I, iv J] w fun e w' => ∃ (ab : Option Addr) (Y : Nat) (ae : Seg), ∃ (ac : Option Addr) (Z : Nat) (af : Seg), ∃ (ad : Option Addr) (aa : Nat) (ag : Seg), e = .returned (.agg #[iv r.Mask, .slice ab r.Stack.length Y, .slice ac r.Queue.Slots.length Z, .slice ad r.Queue.Waiting.length aa]) ∧ ownS Gx.encI r.Stack ab Y ae ∧ ownS encSlot r.Queue.Slots ac Z af ∧ ownS encWaiter r.Queue.Waiting ad aa ag ∧ Mem [] w w' [ae, af, ag] := by
 unfold M.s_l10Raise at hm
 refine cE Tryz.func132 ?_
 have M0 := Mem.refl [] w
 refine G_seq (G_region (wN (.cells ⟨[iv a.Mask, .slice B a.Stack.length y, .slice C a.Queue.Slots.length z, .slice D a.Queue.Waiting.length A]⟩ 87 (0, 0)) M0 ?_))
 intro u bb aj
 refine wN (.cells ⟨[iv 0, .slice none 0 0, .slice none 0 0, .slice none 0 0]⟩ 87 (0, 0)) aj ?_
 intro K bc ak
 refine W_nil (N_then (G_seq ?_))
 obtain ⟨E, aw, hm⟩ := gx_bind hm
 obtain ⟨c, ax, hm⟩ := gx_bind hm
 refine G_sub [(0, .agg #[iv a.Mask, .slice B a.Stack.length y, .slice C a.Queue.Slots.length z, .slice D a.Queue.Waiting.length A]), (1, iv I), (2, iv J), (3, pB u 0), (6, pB K 0)] (by kernel_rfl) (G_dagL 10 [[], [0], [], [2], [3], [], [5], [], [], [6, 7, 8]] [[], [], [], [], [], [], [], [], [], []] [[], [], [], [], [], [], [], [], [], []] [[], [], [], [], [], [], [], [], [], []] [[], [], [], [], [], [], [], [], [], []] [[], [], [], [], [], [], [], [], [], []] (fun _ => []) (fun i => ([fun f v s => v = (pB u 0 : Value) ∧ s = [], fun f v s => v = (iv a.Mask : Value) ∧ s = [], fun f v s => v = (pB u 1 : Value) ∧ s = [], fun f v s => v = (.slice B a.Stack.length y : Value) ∧ s = [], fun f v s => ∃ (n : Option Addr) (d : Nat), v = (.slice n E.length d : Value) ∧ ownS Gx.encI E n d s, fun f v s => v = (pB u 2 : Value) ∧ s = [], fun f v s => v = (.agg #[.slice C a.Queue.Slots.length z, .slice D a.Queue.Waiting.length A] : Value) ∧ s = [], fun f v s => v = (iv I : Value) ∧ s = [], fun f v s => v = (iv J : Value) ∧ s = [], fun f v s => ∃ (q : Option Addr) (l : Nat) (F : Seg), ∃ (t : Option Addr) (m : Nat) (G : Seg), v = (.agg #[.slice q c.Slots.length l, .slice t c.Waiting.length m] : Value) ∧ s = (F ++ G) ∧ ownS encSlot c.Slots q l F ∧ ownS encWaiter c.Waiting t m G] : List ((Nat → Value) → Value → Seg → Prop)).getD i (fun _ _ _ => False)) (fun j f v => ∃ s, (fun i => ([fun f v s => v = (pB u 0 : Value) ∧ s = [], fun f v s => v = (iv a.Mask : Value) ∧ s = [], fun f v s => v = (pB u 1 : Value) ∧ s = [], fun f v s => v = (.slice B a.Stack.length y : Value) ∧ s = [], fun f v s => ∃ (n : Option Addr) (d : Nat), v = (.slice n E.length d : Value) ∧ ownS Gx.encI E n d s, fun f v s => v = (pB u 2 : Value) ∧ s = [], fun f v s => v = (.agg #[.slice C a.Queue.Slots.length z, .slice D a.Queue.Waiting.length A] : Value) ∧ s = [], fun f v s => v = (iv I : Value) ∧ s = [], fun f v s => v = (iv J : Value) ∧ s = [], fun f v s => ∃ (q : Option Addr) (l : Nat) (F : Seg), ∃ (t : Option Addr) (m : Nat) (G : Seg), v = (.agg #[.slice q c.Slots.length l, .slice t c.Waiting.length m] : Value) ∧ s = (F ++ G) ∧ ownS encSlot c.Slots q l F ∧ ownS encWaiter c.Waiting t m G] : List ((Nat → Value) → Value → Seg → Prop)).getD i (fun _ _ _ => False)) j f v s) [] [1, 4, 9] [4, 9] (fun _ _ _ s h => ⟨s, h⟩) (by kernel_rfl) (by kernel_rfl) (ak.preNil 10) (by kernel_rfl) (by kernel_rfl) (by kernel_rfl) (by kernel_rfl) (allOb_cons ?_ (allOb_cons ?_ (allOb_cons ?_ (allOb_cons ?_ (allOb_cons ?_ (allOb_cons ?_ (allOb_cons ?_ (allOb_cons ?_ (allOb_cons ?_ (allOb_cons ?_ allOb_nil)))))))))) ?_)
 ·intro x H
  intro R az al
  exact wR 1 [(7, pB u 0)] az (W_nil (oE (pB u 0) [] ⟨by kernel_rfl, rfl⟩ al))
 ·intro x H
  intro v0_ hb0_
  obtain ⟨rfl, _⟩ := hb0_
  intro R a0 T
  exact wV (iv a.Mask) a0 (eL false 1 0 (T.blk 0 rfl)) (W_nil (oE (iv a.Mask) [] ⟨by kernel_rfl, rfl⟩ T))
 ·intro x H
  intro R a3 am
  exact wR 1 [(9, pB u 1)] a3 (W_nil (oE (pB u 1) [] ⟨by kernel_rfl, rfl⟩ am))
 ·intro x H
  intro v2_ hb2_
  obtain ⟨rfl, _⟩ := hb2_
  intro R a4 U
  exact wV (.slice B a.Stack.length y) a4 (eL false 1 1 (U.blk 0 rfl)) (W_nil (oE (.slice B a.Stack.length y) [] ⟨by kernel_rfl, rfl⟩ U))
 ·intro x H
  intro v3_ hb3_
  obtain ⟨rfl, _⟩ := hb3_
  intro R a5 V
  refine wC 65 #[.slice B a.Stack.length y] ((c_s_l1Own a5 a.Stack B y (ar.mem0 V) aw).mono ?_)
  rintro e_ bd ⟨n, d, ay, rfl, O, ah⟩
  refine ⟨_, rfl, ?_⟩
  exact W_nil (oE (.slice n E.length d) ay ⟨n, d, rfl, O⟩ (Mem.callMid V ah))
 ·intro x H
  intro R a6 an
  exact wR 1 [(12, pB u 2)] a6 (W_nil (oE (pB u 2) [] ⟨by kernel_rfl, rfl⟩ an))
 ·intro x H
  intro v5_ hb5_
  obtain ⟨rfl, _⟩ := hb5_
  intro R a7 W
  exact wV (.agg #[.slice C a.Queue.Slots.length z, .slice D a.Queue.Waiting.length A]) a7 (eL true 2 2 (W.blk 0 rfl)) (W_nil (oE (.agg #[.slice C a.Queue.Slots.length z, .slice D a.Queue.Waiting.length A]) [] ⟨by kernel_rfl, rfl⟩ W))
 ·intro x H
  intro R a8 ao
  exact wR 1 [(14, iv I)] a8 (W_nil (oE (iv I) [] ⟨by kernel_rfl, rfl⟩ ao))
 ·intro x H
  intro R a9 ap
  exact wR 1 [(15, iv J)] a9 (W_nil (oE (iv J) [] ⟨by kernel_rfl, rfl⟩ ap))
 ·intro x H
  intro v6_ hb6_
  obtain ⟨rfl, _⟩ := hb6_
  intro v7_ hb7_
  obtain ⟨rfl, _⟩ := hb7_
  intro v8_ hb8_
  obtain ⟨rfl, _⟩ := hb8_
  intro R ba N
  refine wC 172 #[.agg #[.slice C a.Queue.Slots.length z, .slice D a.Queue.Waiting.length A], iv I, iv J] ((c_s_l9Offer ba (⟨a.Queue.Slots, a.Queue.Waiting⟩ : Queue) C z (au.mem0 N) D A (av.mem0 N) I J ax).mono ?_)
  rintro e_ be ⟨q, l, F, t, m, G, rfl, P, Q, ai⟩
  refine ⟨_, rfl, ?_⟩
  exact W_nil (oE (.agg #[.slice q c.Slots.length l, .slice t c.Waiting.length m]) (F ++ G) ⟨q, l, F, t, m, G, rfl, rfl, P, Q⟩ (Mem.callMid N (ai.permF (by simp))))
 intro x H
 intro v1_ hb1_
 obtain ⟨rfl, _⟩ := hb1_
 intro v4_ hb4_
 obtain ⟨n, d, rfl, O⟩ := hb4_
 intro v9_ hb9_
 obtain ⟨q, l, F, t, m, G, rfl, hs9_, P, Q⟩ := hb9_
 intro S aq
 have L : Mem [] w S [[(u, .cells ⟨[iv a.Mask, .slice B a.Stack.length y, .slice C a.Queue.Slots.length z, .slice D a.Queue.Waiting.length A]⟩ 87 (0, 0))], [(K, .cells ⟨[iv 0, .slice none 0 0, .slice none 0 0, .slice none 0 0]⟩ 87 (0, 0))], (x 4), (x 9)] := aq
 rw [hs9_] at L
 replace L : Mem [] w S [[(u, .cells ⟨[iv a.Mask, .slice B a.Stack.length y, .slice C a.Queue.Slots.length z, .slice D a.Queue.Waiting.length A]⟩ 87 (0, 0))], [(K, .cells ⟨[iv 0, .slice none 0 0, .slice none 0 0, .slice none 0 0]⟩ 87 (0, 0))], (x 4), F, G] := L.permF (by simp)
 refine wR 1 [(6, pB K 0), (17, .agg #[iv a.Mask, .slice n E.length d, .slice q c.Slots.length l, .slice t c.Waiting.length m])] S (wS true 4 0 (.agg #[iv a.Mask, .slice n E.length d, .slice q c.Slots.length l, .slice t c.Waiting.length m]) 1 [iv a.Mask, .slice n E.length d, .slice q c.Slots.length l, .slice t c.Waiting.length m] L rfl ?_)
 intro bf X
 refine W_nil (N_then (G_ret ?_))
 obtain rfl := Option.some.inj hm
 exact N_ret [.agg #[iv a.Mask, .slice n E.length d, .slice q c.Slots.length l, .slice t c.Waiting.length m]] (RVs_cons (RV_cell (g := true) (k := 4) (b := K) (off := 0) (cs := [iv a.Mask, .slice n E.length d, .slice q c.Slots.length l, .slice t c.Waiting.length m]) (e := 87) (fr := (0, 0)) (v := .agg #[iv a.Mask, .slice n E.length d, .slice q c.Slots.length l, .slice t c.Waiting.length m]) (X.blk 1 (b := K) (o := .cells ⟨[iv a.Mask, .slice n E.length d, .slice q c.Slots.length l, .slice t c.Waiting.length m]⟩ 87 (0, 0)) (by kernel_rfl)) (by kernel_rfl) (by kernel_rfl) (by kernel_rfl)) RVs_nil) (⟨n, d, (x 4), q, l, F, t, m, G, rfl, O, P, Q, X.pk [2, 3, 4]⟩)
end Go.Proofs.YtllhajkgkghhdaaGreat
