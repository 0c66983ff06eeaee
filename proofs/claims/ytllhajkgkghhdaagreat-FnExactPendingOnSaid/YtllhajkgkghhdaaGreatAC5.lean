/- The walks, printed by program: whenever the model gives r, the call returns r. Part 5. -/
import Derived.Test.YtllhajkgkghhdaaGreatAM
import Derived.Test.YtllhajkgkghhdaaGreatGxZ
import Derived.Test.YtllhajkgkghhdaaGreatProg
import Derived.Test.YtllhajkgkghhdaaGreatSh
import Derived.Test.YtllhajkgkghhdaaGreatAC4
set_option linter.unusedVariables false
set_option maxRecDepth 100000
set_option maxHeartbeats 4000000
namespace Go.Proofs.YtllhajkgkghhdaaGreat
open Go.Gx
theorem c_l_FnExactRunningOn (w : World) (b : Machine) (A : Option Addr) (u : Nat) (ay : rdS encRoute w b.Routes A u) (B : Option Addr) (x : Nat) (az : rdS Gx.encB w b.Enabled B x) (C : Option Addr) (y : Nat) (a0 : rdS Gx.encB w b.Raised C y) (D : Option Addr) (z : Nat) (a3 : rdD deepInterface w b.Cpus D z) (m : Int) {r : Bool} (hm : M.l_FnExactRunningOn b m = some r) :
  Calls Tryz.prog 4 #[.agg #[.slice A b.Routes.length u, .slice B b.Enabled.length x, .slice C b.Raised.length y, .slice D b.Cpus.length z], iv m] w fun e w' => e = .returned (.bool r) ∧ Mem [] w w' [] := by
 unfold M.l_FnExactRunningOn at hm
 refine cE Tryz.func4 ?_
 have M0 := Mem.refl [] w
 refine G_seq (G_region (wN (.cells ⟨[.slice A b.Routes.length u, .slice B b.Enabled.length x, .slice C b.Raised.length y, .slice D b.Cpus.length z]⟩ 26 (0, 0)) M0 ?_))
 intro o a5 al
 refine wR 1 [(1, iv m), (2, pB o 0)] a5 (W_nil (N_then (G_seq (G_region (wR 1 [(1, iv m), (2, pB o 0), (5, iv 1048576)] a5 (W_nil (N_then (G_seq (G_region (wV (.agg #[.slice A b.Routes.length u, .slice B b.Enabled.length x, .slice C b.Raised.length y, .slice D b.Cpus.length z]) a5 (eL true 4 0 (al.blk 0 rfl)) (wR 1 [(1, iv m), (2, pB o 0), (5, iv 1048576), (16, .agg #[.slice A b.Routes.length u, .slice B b.Enabled.length x, .slice C b.Raised.length y, .slice D b.Cpus.length z]), (17, iv 1048576)] a5 ?_)))))))))))
 obtain ⟨dh, en, hm⟩ := gx_bind hm
 refine wC 12 #[.agg #[.slice A b.Routes.length u, .slice B b.Enabled.length x, .slice C b.Raised.length y, .slice D b.Cpus.length z], iv 1048576] ((c_l_szMachine a5 b A u (ay.mem0 al) B x (az.mem0 al) C y (a0.mem0 al) D z (a3.mem0 al) 1048576 en).mono ?_)
 rintro e_ a6 ⟨rfl, dk⟩
 have aj := al.call0 dk
 refine ⟨_, rfl, ?_⟩
 refine wR 1 [(1, iv m), (2, pB o 0), (5, iv dh)] a6 (W_nil (N_then (G_seq (G_seq (G_region (wR 2 [(1, iv m), (2, pB o 0), (20, .bool (decide (dh < 0)))] a6 (W_nil (N_then ?_))))))))
 rcases gx_bif hm with ⟨b1, hm⟩ | ⟨b1, hm⟩
 ·refine gT b1 (G_seq (G_region (wR 1 [(4, .bool true)] a6 (W_nil (N_then (G_ret (N_then_ret ?_)))))))
  obtain rfl := Option.some.inj hm
  exact N_ret [.bool true] (rC RVs_nil) (⟨rfl, aj.pk []⟩)
 refine gF b1 (G_skip (N_then (G_seq (G_region (wV (.agg #[.slice A b.Routes.length u, .slice B b.Enabled.length x, .slice C b.Raised.length y, .slice D b.Cpus.length z]) a6 (eL true 4 0 (aj.blk 0 rfl)) ?_)))))
 obtain ⟨af, eo, hm⟩ := gx_bind hm
 refine wC 14 #[.agg #[.slice A b.Routes.length u, .slice B b.Enabled.length x, .slice C b.Raised.length y, .slice D b.Cpus.length z]] ((c_l_toMachine a6 b A u (ay.mem0 aj) B x (az.mem0 aj) C y (a0.mem0 aj) D z (a3.mem0 aj) eo).mono ?_)
 rintro e_ di ⟨cs, br, fr, ct, bs, fs, cu, bt, ft, cv, bu, fu, fv, rfl, eb, ec, ed, ee, dl⟩
 have au := aj.call dl
 refine ⟨_, rfl, ?_⟩
 refine wR 1 [(1, iv m), (2, pB o 0), (23, .agg #[.slice cs af.Routes.length br, .slice ct af.Enabled.length bs, .slice cu af.Raised.length bt, .slice cv af.Cpus.length bu]), (24, iv m)] di ?_
 obtain ⟨c, ep, hm⟩ := gx_bind hm
 refine wC 17 #[.agg #[.slice cs af.Routes.length br, .slice ct af.Enabled.length bs, .slice cu af.Raised.length bt, .slice cv af.Cpus.length bu], iv m] ((c_s_RunningOn di af cs br (eb.rd au 1 (by kernel_rfl)) ct bs (ec.rd au 2 (by kernel_rfl)) cu bt (ed.rd au 3 (by kernel_rfl)) cv bu (ee.rd au 4 (by kernel_rfl) 5 (by kernel_rfl)) m ep).mono ?_)
 rintro e_ c0 ⟨t, q, a4, rfl, ci, dm⟩
 have am := au.call dm
 refine ⟨_, rfl, ?_⟩
 refine wR 5 [(1, iv m), (2, pB o 0), (6, .slice t c.1.length q), (7, .bool c.2)] c0 (W_nil (N_then (G_seq (G_region (wV (.agg #[.slice A b.Routes.length u, .slice B b.Enabled.length x, .slice C b.Raised.length y, .slice D b.Cpus.length z]) c0 (eL true 4 0 (am.blk 0 rfl)) ?_)))))
 obtain ⟨d, er, hm⟩ := gx_bind hm
 refine wC 14 #[.agg #[.slice A b.Routes.length u, .slice B b.Enabled.length x, .slice C b.Raised.length y, .slice D b.Cpus.length z]] ((c_l_toMachine c0 b A u (ay.mem0 am) B x (az.mem0 am) C y (a0.mem0 am) D z (a3.mem0 am) er).mono ?_)
 rintro e_ f2 ⟨J, F, bf, K, G, bg, L, H, bh, N, I, bi, bj, rfl, cj, ck, cl, cm, dn⟩
 have d1 := am.call dn
 refine ⟨_, rfl, ?_⟩
 refine wN (.cells ⟨[.slice none 0 0, .slice none 0 0, .slice none 0 0, .slice none 0 0]⟩ 32 (0, 0)) d1 ?_
 intro O f3 d2
 refine wS true 4 0 (.agg #[.slice J d.Routes.length F, .slice K d.Enabled.length G, .slice L d.Raised.length H, .slice N d.Cpus.length I]) 12 [.slice J d.Routes.length F, .slice K d.Enabled.length G, .slice L d.Raised.length H, .slice N d.Cpus.length I] d2 rfl ?_
 intro c1 an
 refine W_nil (N_then (G_seq (G_region (wV (.agg #[.slice J d.Routes.length F, .slice K d.Enabled.length G, .slice L d.Raised.length H, .slice N d.Cpus.length I]) c1 (eL true 4 0 (an.blk 12 rfl)) (wR 1 [(1, iv m), (2, pB o 0), (6, .slice t c.1.length q), (7, .bool c.2), (8, pB O 0), (31, .agg #[.slice J d.Routes.length F, .slice K d.Enabled.length G, .slice L d.Raised.length H, .slice N d.Cpus.length I]), (32, iv m)] c1 ?_)))))
 obtain ⟨l, es, hm⟩ := gx_bind hm
 refine wC 18 #[.agg #[.slice J d.Routes.length F, .slice K d.Enabled.length G, .slice L d.Raised.length H, .slice N d.Cpus.length I], iv m] ((c_i_RunningOn c1 d J F (cj.rd an 7 (by kernel_rfl)) K G (ck.rd an 8 (by kernel_rfl)) L H (cl.rd an 9 (by kernel_rfl)) N I (cm.rd an 10 (by kernel_rfl) 11 (by kernel_rfl)) m es).mono ?_)
 rintro e_ c2 ⟨k, g, ao, rfl, cn, dp⟩
 have bn := an.call dp
 refine ⟨_, rfl, ?_⟩
 refine wR 5 [(1, iv m), (2, pB o 0), (6, .slice t c.1.length q), (7, .bool c.2), (8, pB O 0), (9, .slice k l.1.length g), (10, .bool l.2)] c2 (W_nil (N_then (G_seq (G_seq ?_))))
 obtain ⟨dg, ef, d8⟩ := gx_bind hm
 refine G_meet (fun a w' => Mem [] w w' [[(o, .cells ⟨[.slice A b.Routes.length u, .slice B b.Enabled.length x, .slice C b.Raised.length y, .slice D b.Cpus.length z]⟩ 26 (0, 0))], a4, bf, bg, bh, bi, bj, [(O, .cells ⟨[.slice J d.Routes.length F, .slice K d.Enabled.length G, .slice L d.Raised.length H, .slice N d.Cpus.length I]⟩ 32 (0, 0))], ao] ∧ Sat Tryz.f4.ntmps [(1, iv m), (2, pB o 0), (6, .slice t c.1.length q), (7, .bool c.2), (8, pB O 0), (9, .slice k l.1.length g), (10, .bool l.2), (44, .bool dg)] a) ?_ ?_
 ·have hm := ef
  refine G_region (wR 2 [(1, iv m), (2, pB o 0), (6, .slice t c.1.length q), (7, .bool c.2), (8, pB O 0), (9, .slice k l.1.length g), (10, .bool l.2), (36, .slice k l.1.length g), (37, .slice t c.1.length q)] c2 ?_)
  obtain ⟨e6, et, hm⟩ := gx_bind hm
  refine wC 19 #[.slice k l.1.length g, .slice t c.1.length q] ((c_l_eqIntS c2 l.1 k g (cn.rd bn 13 (by kernel_rfl)) c.1 t q (ci.rd bn 6 (by kernel_rfl)) et).mono ?_)
  rintro e_ c3 ⟨rfl, dq⟩
  have c8 := bn.call0 dq
  refine ⟨_, rfl, ?_⟩
  refine wR 2 [(1, iv m), (2, pB o 0), (6, .slice t c.1.length q), (7, .bool c.2), (8, pB O 0), (9, .slice k l.1.length g), (10, .bool l.2), (40, .bool (!e6))] c3 ?_
  rcases gx_bif hm with ⟨b2, hm⟩ | ⟨b2, hm⟩
  ·refine wK 40 true b2 (wR 4 [(1, iv m), (2, pB o 0), (6, .slice t c.1.length q), (7, .bool c.2), (8, pB O 0), (9, .slice k l.1.length g), (10, .bool l.2), (44, .bool true)] c3 (W_nil ?_))
   obtain rfl := Option.some.inj hm
   exact N_meet fun a ha => ⟨c8.pk [0, 6, 7, 8, 9, 10, 11, 12, 13], ha.s⟩
  refine wK 40 false b2 (wR 4 [(1, iv m), (2, pB o 0), (6, .slice t c.1.length q), (7, .bool c.2), (8, pB O 0), (9, .slice k l.1.length g), (10, .bool l.2), (44, .bool (!(l.2 == c.2)))] c3 (W_nil ?_))
  obtain rfl := Option.some.inj hm
  exact N_meet fun a ha => ⟨c8.pk [0, 6, 7, 8, 9, 10, 11, 12, 13], ha.s⟩
 intro fk fg ⟨c9, d5⟩
 refine N_use d5 ?_
 have hm := d8
 refine N_then ?_
 rcases gx_bif hm with ⟨b3, hm⟩ | ⟨b3, hm⟩
 ·refine gT b3 (G_seq (G_region (wR 1 [(4, .bool false)] fg (W_nil (N_then (G_ret (N_then_ret ?_)))))))
  obtain rfl := Option.some.inj hm
  exact N_ret [.bool false] (rC RVs_nil) (⟨rfl, c9.pk []⟩)
 refine gF b3 (G_skip (N_then (G_seq (G_seq ?_))))
 obtain ⟨E, eu, hm⟩ := gx_bind hm
 refine G_sub [(1, iv m), (2, pB o 0), (6, .slice t c.1.length q), (7, .bool c.2), (8, pB O 0), (9, .slice k l.1.length g), (10, .bool l.2), (44, .bool dg)] (by kernel_rfl) (G_dagL 3 [[], [], [1]] [[], [], []] [[], [], []] [[], [], []] [[], [], []] [[], [], []] (fun _ => []) (fun i => ([fun f v s => v = (.agg #[.slice J d.Routes.length F, .slice K d.Enabled.length G, .slice L d.Raised.length H, .slice N d.Cpus.length I] : Value) ∧ s = [], fun f v s => v = (.agg #[.slice A b.Routes.length u, .slice B b.Enabled.length x, .slice C b.Raised.length y, .slice D b.Cpus.length z] : Value) ∧ s = [], fun f v s => ∃ (V : Option Addr) (Q : Nat) (Z : Seg), ∃ (W : Option Addr) (S : Nat) (aa : Seg), ∃ (X : Option Addr) (T : Nat) (ab : Seg), ∃ (Y : Option Addr) (U : Nat) (ac : Seg) (ad : Seg), v = (.agg #[.slice V E.Routes.length Q, .slice W E.Enabled.length S, .slice X E.Raised.length T, .slice Y E.Cpus.length U] : Value) ∧ s = (Z ++ (aa ++ (ab ++ (ac ++ ad)))) ∧ ownS encRoute E.Routes V Q Z ∧ ownS Gx.encB E.Enabled W S aa ∧ ownS Gx.encB E.Raised X T ab ∧ ownD deepInterface E.Cpus Y U ac ad] : List ((Nat → Value) → Value → Seg → Prop)).getD i (fun _ _ _ => False)) (fun j f v => ∃ s, (fun i => ([fun f v s => v = (.agg #[.slice J d.Routes.length F, .slice K d.Enabled.length G, .slice L d.Raised.length H, .slice N d.Cpus.length I] : Value) ∧ s = [], fun f v s => v = (.agg #[.slice A b.Routes.length u, .slice B b.Enabled.length x, .slice C b.Raised.length y, .slice D b.Cpus.length z] : Value) ∧ s = [], fun f v s => ∃ (V : Option Addr) (Q : Nat) (Z : Seg), ∃ (W : Option Addr) (S : Nat) (aa : Seg), ∃ (X : Option Addr) (T : Nat) (ab : Seg), ∃ (Y : Option Addr) (U : Nat) (ac : Seg) (ad : Seg), v = (.agg #[.slice V E.Routes.length Q, .slice W E.Enabled.length S, .slice X E.Raised.length T, .slice Y E.Cpus.length U] : Value) ∧ s = (Z ++ (aa ++ (ab ++ (ac ++ ad)))) ∧ ownS encRoute E.Routes V Q Z ∧ ownS Gx.encB E.Enabled W S aa ∧ ownS Gx.encB E.Raised X T ab ∧ ownD deepInterface E.Cpus Y U ac ad] : List ((Nat → Value) → Value → Seg → Prop)).getD i (fun _ _ _ => False)) j f v s) [] [0, 2] [2] (fun _ _ _ s h => ⟨s, h⟩) (by kernel_rfl) (by kernel_rfl) (c9.preNil 3) (by kernel_rfl) (by kernel_rfl) (by kernel_rfl) (by kernel_rfl) (allOb_cons ?_ (allOb_cons ?_ (allOb_cons ?_ allOb_nil))) ?_)
 ·intro ba b0
  intro R fh da
  exact wV (.agg #[.slice J d.Routes.length F, .slice K d.Enabled.length G, .slice L d.Raised.length H, .slice N d.Cpus.length I]) fh (eL true 4 0 (da.blk 7 rfl)) (W_nil (oE (.agg #[.slice J d.Routes.length F, .slice K d.Enabled.length G, .slice L d.Raised.length H, .slice N d.Cpus.length I]) [] ⟨by kernel_rfl, rfl⟩ da))
 ·intro ba b0
  intro R fi db
  exact wV (.agg #[.slice A b.Routes.length u, .slice B b.Enabled.length x, .slice C b.Raised.length y, .slice D b.Cpus.length z]) fi (eL true 4 0 (db.blk 0 rfl)) (W_nil (oE (.agg #[.slice A b.Routes.length u, .slice B b.Enabled.length x, .slice C b.Raised.length y, .slice D b.Cpus.length z]) [] ⟨by kernel_rfl, rfl⟩ db))
 ·intro ba b0
  intro v1_ hb1_
  obtain ⟨rfl, _⟩ := hb1_
  intro R fj av
  refine wC 14 #[.agg #[.slice A b.Routes.length u, .slice B b.Enabled.length x, .slice C b.Raised.length y, .slice D b.Cpus.length z]] ((c_l_toMachine fj b A u (ay.mem0 av) B x (az.mem0 av) C y (a0.mem0 av) D z (a3.mem0 av) eu).mono ?_)
  rintro e_ f5 ⟨V, Q, Z, W, S, aa, X, T, ab, Y, U, ac, ad, rfl, co, cp, cq, cr, dr⟩
  refine ⟨_, rfl, ?_⟩
  exact W_nil (oE (.agg #[.slice V E.Routes.length Q, .slice W E.Enabled.length S, .slice X E.Raised.length T, .slice Y E.Cpus.length U]) (Z ++ (aa ++ (ab ++ (ac ++ ad)))) ⟨V, Q, Z, W, S, aa, X, T, ab, Y, U, ac, ad, rfl, rfl, co, cp, cq, cr⟩ (Mem.callMid av (dr.permF (by simp))))
 intro ba b0
 intro v0_ hb0_
 obtain ⟨rfl, _⟩ := hb0_
 intro v2_ hb2_
 obtain ⟨V, Q, Z, W, S, aa, X, T, ab, Y, U, ac, ad, rfl, hs2_, co, cp, cq, cr⟩ := hb2_
 intro c4 d3
 have P : Mem [] w c4 [[(o, .cells ⟨[.slice A b.Routes.length u, .slice B b.Enabled.length x, .slice C b.Raised.length y, .slice D b.Cpus.length z]⟩ 26 (0, 0))], a4, bf, bg, bh, bi, bj, [(O, .cells ⟨[.slice J d.Routes.length F, .slice K d.Enabled.length G, .slice L d.Raised.length H, .slice N d.Cpus.length I]⟩ 32 (0, 0))], ao, (ba 2)] := d3
 rw [hs2_] at P
 replace P : Mem [] w c4 [[(o, .cells ⟨[.slice A b.Routes.length u, .slice B b.Enabled.length x, .slice C b.Raised.length y, .slice D b.Cpus.length z]⟩ 26 (0, 0))], a4, bf, bg, bh, bi, bj, [(O, .cells ⟨[.slice J d.Routes.length F, .slice K d.Enabled.length G, .slice L d.Raised.length H, .slice N d.Cpus.length I]⟩ 32 (0, 0))], ao, Z, aa, ab, ac, ad] := P.permF (by simp)
 obtain ⟨e7, ev, hm⟩ := gx_bind hm
 refine wC 16 #[.agg #[.slice J d.Routes.length F, .slice K d.Enabled.length G, .slice L d.Raised.length H, .slice N d.Cpus.length I], .agg #[.slice V E.Routes.length Q, .slice W E.Enabled.length S, .slice X E.Raised.length T, .slice Y E.Cpus.length U]] ((c_l_eqMachine c4 d J F (cj.rd P 2 (by kernel_rfl)) K G (ck.rd P 3 (by kernel_rfl)) L H (cl.rd P 4 (by kernel_rfl)) N I (cm.rd P 5 (by kernel_rfl) 6 (by kernel_rfl)) E V Q (co.rd P 9 (by kernel_rfl)) W S (cp.rd P 10 (by kernel_rfl)) X T (cq.rd P 11 (by kernel_rfl)) Y U (cr.rd P 12 (by kernel_rfl) 13 (by kernel_rfl)) ev).mono ?_)
 rintro e_ ap ⟨rfl, ds⟩
 have aw := P.call0 ds
 refine ⟨_, rfl, ?_⟩
 refine wR 1 [(1, iv m), (2, pB o 0), (6, .slice t c.1.length q), (7, .bool c.2), (8, pB O 0), (9, .slice k l.1.length g), (10, .bool l.2), (49, .bool (!e7))] ap (W_nil (N_then ?_))
 rcases gx_bif hm with ⟨b4, hm⟩ | ⟨b4, hm⟩
 ·refine gT b4 (G_seq (G_region (wR 1 [(4, .bool false)] ap (W_nil (N_then (G_ret (N_then_ret ?_)))))))
  obtain rfl := Option.some.inj hm
  exact N_ret [.bool false] (rC RVs_nil) (⟨rfl, aw.pk []⟩)
 refine gF b4 (G_skip (N_then (G_seq (G_region (wR 1 [(1, iv m), (2, pB o 0), (6, .slice t c.1.length q), (7, .bool c.2), (8, pB O 0), (9, .slice k l.1.length g), (10, .bool l.2), (11, iv 1)] ap (W_nil (N_then (G_seq (G_region (wV (.agg #[.slice J d.Routes.length F, .slice K d.Enabled.length G, .slice L d.Raised.length H, .slice N d.Cpus.length I]) ap (eL true 4 0 (aw.blk 7 rfl)) (wR 1 [(1, iv m), (2, pB o 0), (6, .slice t c.1.length q), (7, .bool c.2), (9, .slice k l.1.length g), (10, .bool l.2), (11, iv 1), (50, .agg #[.slice J d.Routes.length F, .slice K d.Enabled.length G, .slice L d.Raised.length H, .slice N d.Cpus.length I]), (51, iv 1)] ap ?_)))))))))))
 obtain ⟨ae, ew, hm⟩ := gx_bind hm
 refine wC 20 #[.agg #[.slice J d.Routes.length F, .slice K d.Enabled.length G, .slice L d.Raised.length H, .slice N d.Cpus.length I], iv 1] ((c_l_markMachine ap d J F bf cj K G bg ck L H bh cl N I bi bj cm 1 (aw.hasPick [2, 3, 4, 5, 6]) (aw.nodupPick [2, 3, 4, 5, 6] (by kernel_rfl)) ew).mono ?_)
 rintro e_ aq ⟨fa, fb, fc, fd, fe, rfl, fn, ce, fo, cf, fp, cg, fq, ch, dt⟩
 have d4 := aw.callF' [2, 3, 4, 5, 6] [0, 1, 7, 8, 9, 10, 11, 12, 13] (by kernel_rfl) dt
 refine ⟨_, rfl, ?_⟩
 refine wX 50 (.agg #[.slice J d.Routes.length F, .slice K d.Enabled.length G, .slice L d.Raised.length H, .slice N d.Cpus.length I]) (.agg #[.slice J ae.2.1.length F, .slice K ae.2.2.1.length G, .slice L ae.2.2.2.1.length H, .slice N ae.2.2.2.2.length I]) (by first | rw [ce, cf, cg, ch] | rw [ce] | rw [cf] | rw [cg] | rw [ch]) ?_
 have a7 : Mem [] w aq [[(o, .cells ⟨[.slice A b.Routes.length u, .slice B b.Enabled.length x, .slice C b.Raised.length y, .slice D b.Cpus.length z]⟩ 26 (0, 0))], a4, [(O, .cells ⟨[.slice J ae.2.1.length F, .slice K ae.2.2.1.length G, .slice L ae.2.2.2.1.length H, .slice N ae.2.2.2.2.length I]⟩ 32 (0, 0))], ao, Z, aa, ab, ac, ad, fa, fb, fc, fd, fe] := by rw [ce, cf, cg, ch]; exact d4
 refine wR 1 [(1, iv m), (2, pB o 0), (6, .slice t c.1.length q), (7, .bool c.2), (9, .slice k l.1.length g), (10, .bool l.2), (11, iv ae.1)] aq (W_nil (N_then (G_seq (G_seq ?_))))
 obtain ⟨e4, eg, d9⟩ := gx_bind hm
 refine G_meet (fun a w' => Mem [] w w' [[(o, .cells ⟨[.slice A b.Routes.length u, .slice B b.Enabled.length x, .slice C b.Raised.length y, .slice D b.Cpus.length z]⟩ 26 (0, 0))], a4, ao] ∧ Sat Tryz.f4.ntmps [(1, iv m), (2, pB o 0), (6, .slice t c.1.length q), (7, .bool c.2), (9, .slice k l.1.length g), (65, .bool e4)] a) ?_ ?_
 ·have hm := eg
  refine G_region (wR 3 [(1, iv m), (2, pB o 0), (6, .slice t c.1.length q), (7, .bool c.2), (9, .slice k l.1.length g), (10, .bool l.2), (55, .bool (decide (ae.1 < 0)))] aq ?_)
  rcases gx_bif hm with ⟨b5, hm⟩ | ⟨b5, hm⟩
  ·refine wK 55 true b5 (wR 10 [(1, iv m), (2, pB o 0), (6, .slice t c.1.length q), (7, .bool c.2), (9, .slice k l.1.length g), (65, .bool true)] aq (W_nil ?_))
   obtain rfl := Option.some.inj hm
   exact N_meet fun a ha => ⟨a7.pk [0, 1, 3], ha.s⟩
  refine wK 55 false b5 (wR 2 [(1, iv m), (2, pB o 0), (6, .slice t c.1.length q), (7, .bool c.2), (9, .slice k l.1.length g), (10, .bool l.2), (55, .bool false), (56, .slice k l.1.length g), (57, .slice t c.1.length q)] aq ?_)
  obtain ⟨e8, ex, hm⟩ := gx_bind hm
  refine wC 19 #[.slice k l.1.length g, .slice t c.1.length q] ((c_l_eqIntS aq l.1 k g (cn.rd a7 3 (by kernel_rfl)) c.1 t q (ci.rd a7 1 (by kernel_rfl)) ex).mono ?_)
  rintro e_ c5 ⟨rfl, du⟩
  have dc := a7.call0 du
  refine ⟨_, rfl, ?_⟩
  refine wR 3 [(1, iv m), (2, pB o 0), (6, .slice t c.1.length q), (7, .bool c.2), (9, .slice k l.1.length g), (10, .bool l.2), (61, .bool (!e8))] c5 ?_
  rcases gx_bif hm with ⟨b6, hm⟩ | ⟨b6, hm⟩
  ·refine wK 61 true b6 (wR 4 [(1, iv m), (2, pB o 0), (6, .slice t c.1.length q), (7, .bool c.2), (9, .slice k l.1.length g), (65, .bool true)] c5 (W_nil ?_))
   obtain rfl := Option.some.inj hm
   exact N_meet fun a ha => ⟨dc.pk [0, 1, 3], ha.s⟩
  refine wK 61 false b6 (wR 4 [(1, iv m), (2, pB o 0), (6, .slice t c.1.length q), (7, .bool c.2), (9, .slice k l.1.length g), (65, .bool (!(l.2 == c.2)))] c5 (W_nil ?_))
  obtain rfl := Option.some.inj hm
  exact N_meet fun a ha => ⟨dc.pk [0, 1, 3], ha.s⟩
 intro fl bk ⟨a8, d6⟩
 refine N_use d6 ?_
 have hm := d9
 refine N_then ?_
 rcases gx_bif hm with ⟨b7, hm⟩ | ⟨b7, hm⟩
 ·refine gT b7 (G_seq (G_region (wR 1 [(4, .bool false)] bk (W_nil (N_then (G_ret (N_then_ret ?_)))))))
  obtain rfl := Option.some.inj hm
  exact N_ret [.bool false] (rC RVs_nil) (⟨rfl, a8.pk []⟩)
 refine gF b7 (G_skip (N_then (G_seq (G_region (wR 1 [(1, iv m), (2, pB o 0), (6, .slice t c.1.length q), (7, .bool c.2), (9, .slice k l.1.length g), (12, iv 1)] bk (W_nil (N_then (G_seq (G_region (wR 2 [(1, iv m), (2, pB o 0), (6, .slice t c.1.length q), (7, .bool c.2), (9, .slice k l.1.length g), (12, iv 1), (66, .slice k l.1.length g), (67, iv 1)] bk ?_))))))))))
 obtain ⟨n, ey, hm⟩ := gx_bind hm
 refine wC 21 #[.slice k l.1.length g, iv 1] ((c_l_markIntS bk l.1 k g ao cn 1 (a8.hasPick [2]) (a8.nodupPick [2] (by kernel_rfl)) ey).mono ?_)
 rintro e_ bl ⟨ff, rfl, df, bb, dv⟩
 have dd := a8.callF' [2] [0, 1] (by kernel_rfl) dv
 refine ⟨_, rfl, ?_⟩
 refine wX 9 (.slice k l.1.length g) (.slice k n.2.length g) (by first | rw [bb] | rw [bb]) (wX 66 (.slice k l.1.length g) (.slice k n.2.length g) (by first | rw [bb] | rw [bb]) (wR 1 [(1, iv m), (2, pB o 0), (6, .slice t c.1.length q), (7, .bool c.2), (9, .slice k n.2.length g), (12, iv n.1)] bl (W_nil (N_then (G_seq (G_region (wR 1 [(1, iv m), (2, pB o 0), (6, .slice t c.1.length q), (7, .bool c.2), (9, .slice k n.2.length g), (12, iv n.1), (13, iv 1)] bl (W_nil (N_then (G_seq (G_region (wR 2 [(1, iv m), (2, pB o 0), (6, .slice t c.1.length q), (7, .bool c.2), (9, .slice k n.2.length g), (12, iv n.1), (13, iv 1), (69, .slice k n.2.length g), (70, iv 1)] bl ?_))))))))))))
 obtain ⟨bd, ez, hm⟩ := gx_bind hm
 refine wC 22 #[.slice k n.2.length g, iv 1] ((c_l_heldIntS bl n.2 k g (df.rd dd 2 (by kernel_rfl)) 1 ez).mono ?_)
 rintro e_ ak ⟨rfl, dw⟩
 have ah := dd.call0 dw
 refine ⟨_, rfl, ?_⟩
 refine wR 1 [(1, iv m), (2, pB o 0), (6, .slice t c.1.length q), (7, .bool c.2), (9, .slice k n.2.length g), (12, iv n.1), (13, iv bd)] ak (W_nil (N_then (G_seq (G_seq (G_region (wR 2 [(1, iv m), (2, pB o 0), (6, .slice t c.1.length q), (7, .bool c.2), (9, .slice k n.2.length g), (12, iv n.1), (13, iv bd), (73, .bool (decide (bd < 0)))] ak (W_nil (N_then ?_))))))))
 rcases gx_bif hm with ⟨b8, hm⟩ | ⟨b8, hm⟩
 ·refine gT b8 (G_seq (G_region (wR 1 [(4, .bool false)] ak (W_nil (N_then (G_ret (N_then_ret ?_)))))))
  obtain rfl := Option.some.inj hm
  exact N_ret [.bool false] (rC RVs_nil) (⟨rfl, ah.pk []⟩)
 refine gF b8 (G_skip (N_then (G_seq (G_seq (G_region (wR 3 [(1, iv m), (2, pB o 0), (6, .slice t c.1.length q), (7, .bool c.2), (9, .slice k n.2.length g), (12, iv n.1), (76, .bool (bd != n.1))] ak (W_nil (N_then ?_))))))))
 rcases gx_bif hm with ⟨b9, hm⟩ | ⟨b9, hm⟩
 ·refine gT b9 (G_seq (G_region (wR 1 [(4, .bool false)] ak (W_nil (N_then (G_ret (N_then_ret ?_)))))))
  obtain rfl := Option.some.inj hm
  exact N_ret [.bool false] (rC RVs_nil) (⟨rfl, ah.pk []⟩)
 refine gF b9 (G_skip (N_then (G_seq (G_region (wV (.agg #[.slice A b.Routes.length u, .slice B b.Enabled.length x, .slice C b.Raised.length y, .slice D b.Cpus.length z]) ak (eL true 4 0 (ah.blk 0 rfl)) ?_)))))
 obtain ⟨ag, e0, hm⟩ := gx_bind hm
 refine wC 14 #[.agg #[.slice A b.Routes.length u, .slice B b.Enabled.length x, .slice C b.Raised.length y, .slice D b.Cpus.length z]] ((c_l_toMachine ak b A u (ay.mem0 ah) B x (az.mem0 ah) C y (a0.mem0 ah) D z (a3.mem0 ah) e0).mono ?_)
 rintro e_ dj ⟨cw, bv, fw, cx, bw, fx, cy, bx, fy, cz, bz, fz, f0, rfl, eh, ei, ej, ek, dx⟩
 have ax := ah.call dx
 refine ⟨_, rfl, ?_⟩
 refine wR 1 [(6, .slice t c.1.length q), (7, .bool c.2), (9, .slice k n.2.length g), (12, iv n.1), (79, .agg #[.slice cw ag.Routes.length bv, .slice cx ag.Enabled.length bw, .slice cy ag.Raised.length bx, .slice cz ag.Cpus.length bz]), (80, iv m)] dj ?_
 obtain ⟨ai, e1, hm⟩ := gx_bind hm
 refine wC 18 #[.agg #[.slice cw ag.Routes.length bv, .slice cx ag.Enabled.length bw, .slice cy ag.Raised.length bx, .slice cz ag.Cpus.length bz], iv m] ((c_i_RunningOn dj ag cw bv (eh.rd ax 3 (by kernel_rfl)) cx bw (ei.rd ax 4 (by kernel_rfl)) cy bx (ej.rd ax 5 (by kernel_rfl)) cz bz (ek.rd ax 6 (by kernel_rfl) 7 (by kernel_rfl)) m e1).mono ?_)
 rintro e_ c6 ⟨bc, a9, f1, rfl, el, dy⟩
 have bo := ax.call dy
 refine ⟨_, rfl, ?_⟩
 refine wR 5 [(6, .slice t c.1.length q), (7, .bool c.2), (9, .slice k n.2.length g), (12, iv n.1), (14, .slice bc ai.1.length a9), (15, .bool ai.2)] c6 (W_nil (N_then (G_seq (G_seq ?_))))
 obtain ⟨e5, em, ea⟩ := gx_bind hm
 refine G_meet (fun a w' => Mem [] w w' [ff] ∧ Sat Tryz.f4.ntmps [(9, .slice k n.2.length g), (12, iv n.1), (92, .bool e5)] a) ?_ ?_
 ·have hm := em
  refine G_region (wR 2 [(7, .bool c.2), (9, .slice k n.2.length g), (12, iv n.1), (15, .bool ai.2), (84, .slice bc ai.1.length a9), (85, .slice t c.1.length q)] c6 ?_)
  obtain ⟨e9, e2, hm⟩ := gx_bind hm
  refine wC 19 #[.slice bc ai.1.length a9, .slice t c.1.length q] ((c_l_eqIntS c6 ai.1 bc a9 (el.rd bo 8 (by kernel_rfl)) c.1 t q (ci.rd bo 1 (by kernel_rfl)) e2).mono ?_)
  rintro e_ c7 ⟨rfl, dz⟩
  have de := bo.call0 dz
  refine ⟨_, rfl, ?_⟩
  refine wR 2 [(7, .bool c.2), (9, .slice k n.2.length g), (12, iv n.1), (15, .bool ai.2), (88, .bool (!e9))] c7 ?_
  rcases gx_bif hm with ⟨ca, hm⟩ | ⟨ca, hm⟩
  ·refine wK 88 true ca (wR 4 [(9, .slice k n.2.length g), (12, iv n.1), (92, .bool true)] c7 (W_nil ?_))
   obtain rfl := Option.some.inj hm
   exact N_meet fun a ha => ⟨de.pk [2], ha.s⟩
  refine wK 88 false ca (wR 4 [(9, .slice k n.2.length g), (12, iv n.1), (92, .bool (!(ai.2 == c.2)))] c7 (W_nil ?_))
  obtain rfl := Option.some.inj hm
  exact N_meet fun a ha => ⟨de.pk [2], ha.s⟩
 intro fm bm ⟨bp, d7⟩
 refine N_use d7 ?_
 have hm := ea
 refine N_then ?_
 rcases gx_bif hm with ⟨cb, hm⟩ | ⟨cb, hm⟩
 ·refine gT cb (G_seq (G_region (wR 1 [(4, .bool false)] bm (W_nil (N_then (G_ret (N_then_ret ?_)))))))
  obtain rfl := Option.some.inj hm
  exact N_ret [.bool false] (rC RVs_nil) (⟨rfl, bp.pk []⟩)
 refine gF cb (G_skip (N_then (G_seq (G_region (wR 1 [(9, .slice k n.2.length g), (12, iv n.1), (13, iv 1)] bm (W_nil (N_then (G_seq (G_region (wR 2 [(12, iv n.1), (13, iv 1), (93, .slice k n.2.length g), (94, iv 1)] bm ?_))))))))))
 obtain ⟨be, e3, hm⟩ := gx_bind hm
 refine wC 22 #[.slice k n.2.length g, iv 1] ((c_l_heldIntS bm n.2 k g (df.rd bp 0 (by kernel_rfl)) 1 e3).mono ?_)
 rintro e_ ar ⟨rfl, d0⟩
 have bq := bp.call0 d0
 refine ⟨_, rfl, ?_⟩
 refine wR 1 [(12, iv n.1), (13, iv be)] ar (W_nil (N_then (G_seq (G_seq (G_region (wR 2 [(12, iv n.1), (13, iv be), (97, .bool (decide (be < 0)))] ar (W_nil (N_then ?_))))))))
 rcases gx_bif hm with ⟨cc, hm⟩ | ⟨cc, hm⟩
 ·refine gT cc (G_seq (G_region (wR 1 [(4, .bool false)] ar (W_nil (N_then (G_ret (N_then_ret ?_)))))))
  obtain rfl := Option.some.inj hm
  exact N_ret [.bool false] (rC RVs_nil) (⟨rfl, bq.pk []⟩)
 refine gF cc (G_skip (N_then (G_seq (G_seq (G_region (wR 3 [(100, .bool (be != n.1))] ar (W_nil (N_then ?_))))))))
 rcases gx_bif hm with ⟨cd, hm⟩ | ⟨cd, hm⟩
 ·refine gT cd (G_seq (G_region (wR 1 [(4, .bool false)] ar (W_nil (N_then (G_ret (N_then_ret ?_)))))))
  obtain rfl := Option.some.inj hm
  exact N_ret [.bool false] (rC RVs_nil) (⟨rfl, bq.pk []⟩)
 refine gF cd (G_skip (N_then (G_seq (G_region (wR 1 [(4, .bool true)] ar (W_nil (N_then (G_ret ?_))))))))
 obtain rfl := Option.some.inj hm
 exact N_ret [.bool true] (rC RVs_nil) (⟨rfl, bq.pk []⟩)
theorem c_s_l9Wait (w : World) (d : List Waiter) (c : Option Addr) (b : Nat) (t : rdS encWaiter w d c b) (g : Waiter) {r : (List Waiter)} (hm : M.s_l9Wait d g = some r) :
  Calls Tryz.prog 130 #[.slice c d.length b, .agg #[iv g.Irq, iv g.Priority]] w fun e w' => ∃ (ai : Option Addr) (af : Nat) (aj : Seg), e = .returned (.slice ai r.length af) ∧ ownS encWaiter r ai af aj ∧ Mem [] w w' [aj] := by
 unfold M.s_l9Wait at hm
 refine cE Tryz.func130 ?_
 have M0 := Mem.refl [] w
 refine G_seq (G_region (wN (.cells ⟨[iv g.Irq, iv g.Priority]⟩ 142 (0, 0)) M0 ?_))
 intro l ak al
 refine wR 1 [(0, .slice c d.length b), (3, pB l 0)] ak (W_nil (N_then (G_seq (G_region (wR 1 [(0, .slice c d.length b), (3, pB l 0), (5, iv 0)] ak (W_nil (N_then (G_seq ?_))))))))
 obtain ⟨m, bi, bd⟩ := gx_bind hm
 refine G_meet (fun a w' => Mem [] w w' [[(l, .cells ⟨[iv g.Irq, iv g.Priority]⟩ 142 (0, 0))]] ∧ Sat Tryz.f130.ntmps [(0, .slice c d.length b), (3, pB l 0), (5, iv m)] a) ?_ ?_
 ·refine G_block (G_while (σ := Int) (ρ := Int) (fun k a w' => Mem [] w w' [[(l, .cells ⟨[iv g.Irq, iv g.Priority]⟩ 142 (0, 0))]] ∧ Sat Tryz.f130.ntmps [(0, .slice c d.length b), (3, pB l 0), (5, iv k)] a) bi (fun a ha => ⟨al.pk [0], ha.s⟩) ?_)
  clear hm
  intro k cf hm bg b0 b3 ⟨am, a6⟩
  refine G_use a6 (G_seq (G_seq ?_))
  obtain ⟨bj, be, bc⟩ := gx_bind hm
  refine G_meet (fun a w' => Mem [] w w' [[(l, .cells ⟨[iv g.Irq, iv g.Priority]⟩ 142 (0, 0))]] ∧ Sat Tryz.f130.ntmps [(0, .slice c d.length b), (3, pB l 0), (5, iv k), (26, .bool bj)] a) ?_ ?_
  ·have hm := be
   refine G_quiet (by kernel_rfl) (by kernel_rfl) am (zR [iv k, .slice c d.length b, iv (d.length : Int), .bool (decide (k < (d.length : Int))), .bool (decide (k < (d.length : Int)))] [(0, .slice c d.length b), (3, pB l 0), (5, iv k), (10, .bool (decide (k < (d.length : Int))))] ?_)
   rcases gx_bif hm with ⟨N, hm⟩ | ⟨N, hm⟩
   ·refine zK 10 true N (zR [.slice c d.length b, iv k] [(0, .slice c d.length b), (3, pB l 0), (5, iv k), (10, .bool true), (11, .slice c d.length b), (12, iv k)] ?_)
    obtain ⟨D, T, hm⟩ := gx_bind hm
    refine zV (elemP c (k.toNat * 2)) (fun w_ M_ => (eI (t.mem0 M_) rfl T)) (zV (elemP c (k.toNat * 2 + 1)) (fun w_ M_ => (eF 1 (k.toNat * 2) 1 (t.mem0 M_) T)) (zV (iv D.Priority) (fun w_ M_ => (eE false 1 1 (k.toNat * 2 + 1) (t.mem0 M_) T)) (zR [.slice c d.length b, iv k] [(0, .slice c d.length b), (3, pB l 0), (5, iv k), (10, .bool true), (15, iv D.Priority), (16, .slice c d.length b), (17, iv k)] ?_)))
    obtain ⟨H, U, hm⟩ := gx_bind hm
    refine zV (elemP c (k.toNat * 2)) (fun w_ M_ => (eI (t.mem0 M_) rfl U)) (zV (elemP c (k.toNat * 2 + 0)) (fun w_ M_ => (eF 0 (k.toNat * 2) 0 (t.mem0 M_) U)) (zV (iv H.Irq) (fun w_ M_ => (eE false 1 0 (k.toNat * 2 + 0) (t.mem0 M_) U)) (zR [pB l 1] [(0, .slice c d.length b), (3, pB l 0), (5, iv k), (10, .bool true), (15, iv D.Priority), (20, iv H.Irq), (21, pB l 1)] (zV (iv g.Priority) (fun w_ M_ => (eL false 1 1 (M_.blk 0 rfl))) (zR [pB l 0] [(0, .slice c d.length b), (3, pB l 0), (5, iv k), (10, .bool true), (15, iv D.Priority), (20, iv H.Irq), (22, iv g.Priority), (23, pB l 0)] (zV (iv g.Irq) (fun w_ M_ => (eL false 1 0 (M_.blk 0 rfl))) ?_))))))
    obtain ⟨W, bh, hm⟩ := gx_bind hm
    refine Z_call 171 #[iv D.Priority, iv H.Irq, iv g.Priority, iv g.Irq] (.bool W) (by kernel_rfl) (fun w_ => by kernel_rfl) (fun w_ M_ => (c_s_l8Less w_ D.Priority H.Irq g.Priority g.Irq bh).mono fun e w2_ h_ => ⟨h_.1, M_.call0 h_.2⟩) (zR [.bool W] [(0, .slice c d.length b), (3, pB l 0), (5, iv k), (26, .bool W)] (Z_end fun b4 an => ?_))
    obtain rfl := Option.some.inj hm
    exact N_meet fun a ha => ⟨an.pk [0], ha.s⟩
   refine zK 10 false N (zR [undef, undef, undef, undef, undef, undef, undef, undef, undef, undef, undef, undef, undef, undef, undef, .bool false] [(0, .slice c d.length b), (3, pB l 0), (5, iv k), (26, .bool false)] (Z_end fun b5 ao => ?_))
   obtain rfl := Option.some.inj hm
   exact N_meet fun a ha => ⟨ao.pk [0], ha.s⟩
  intro b1 bp ⟨X, a7⟩
  refine N_use a7 ?_
  have hm := bc
  refine N_then ?_
  rcases gx_bif hm with ⟨O, hm⟩ | ⟨O, hm⟩
  ·refine gT O (G_skip (N_then (G_block (G_region (wR 3 [(0, .slice c d.length b), (3, pB l 0), (5, iv (w64 (k + 1)))] bp (W_nil (N_block ?_)))))))
   obtain rfl := Option.some.inj hm
   exact N_loop fun a ha => ⟨_, rfl, X.pk [0], ha.s⟩
  refine gF O (G_exit (N_then_exit (N_then_exit (N_block_eq ?_))))
  obtain rfl := Option.some.inj hm
  obtain rfl := bg _ rfl
  exact N_meet fun a ha => ⟨X.pk [0], ha.s⟩
 intro b2 b6 ⟨ap, a8⟩
 refine N_use a8 ?_
 have hm := bd
 refine N_then (G_seq ?_)
 obtain ⟨J, ag, hm⟩ := gx_bind hm
 obtain ⟨F, a9, hm⟩ := gx_bind hm
 obtain ⟨G, ba, hm⟩ := gx_bind hm
 obtain ⟨K, ah, hm⟩ := gx_bind hm
 refine G_sub [(0, .slice c d.length b), (3, pB l 0), (5, iv m)] (by kernel_rfl) (G_dagL 11 [[], [], [], [1, 2], [0, 3], [], [5], [4, 6], [], [], [8, 9]] [[], [], [], [], [0], [], [], [4], [], [], []] [[], [], [], [], [], [], [], [6], [], [], []] [[], [], [], [], [], [], [], [], [], [], []] [[], [], [], [], [], [], [], [], [], [], []] [[], [], [], [], [], [], [], [], [], [], []] (fun _ => []) (fun i => ([fun f v s => ∃ (A : Option Addr) (x : Nat), v = (.slice A ([] : List Waiter).length x : Value) ∧ ownS encWaiter ([] : List Waiter) A x s, fun f v s => v = (.slice c d.length b : Value) ∧ s = [], fun f v s => v = (iv m : Value) ∧ s = [], fun f v s => v = (.slice (subP c (0 : Int).toNat b 2) J.length (b - (0 : Int).toNat) : Value) ∧ s = [], fun f v s => ∃ (B : Option Addr) (y : Nat), v = (.slice B F.length y : Value) ∧ ownS encWaiter F B y s, fun f v s => v = (.agg #[iv g.Irq, iv g.Priority] : Value) ∧ s = [], fun f v s => ∃ (u : Option Addr) (q : Nat), v = (.slice u [g].length q : Value) ∧ ownS encWaiter [g] u q s, fun f v s => ∃ (C : Option Addr) (z : Nat), v = (.slice C G.length z : Value) ∧ ownS encWaiter G C z s, fun f v s => v = (.slice c d.length b : Value) ∧ s = [], fun f v s => v = (iv m : Value) ∧ s = [], fun f v s => v = (.slice (subP c m.toNat b 2) K.length (b - m.toNat) : Value) ∧ s = []] : List ((Nat → Value) → Value → Seg → Prop)).getD i (fun _ _ _ => False)) (fun j f v => ∃ s, (fun i => ([fun f v s => ∃ (A : Option Addr) (x : Nat), v = (.slice A ([] : List Waiter).length x : Value) ∧ ownS encWaiter ([] : List Waiter) A x s, fun f v s => v = (.slice c d.length b : Value) ∧ s = [], fun f v s => v = (iv m : Value) ∧ s = [], fun f v s => v = (.slice (subP c (0 : Int).toNat b 2) J.length (b - (0 : Int).toNat) : Value) ∧ s = [], fun f v s => ∃ (B : Option Addr) (y : Nat), v = (.slice B F.length y : Value) ∧ ownS encWaiter F B y s, fun f v s => v = (.agg #[iv g.Irq, iv g.Priority] : Value) ∧ s = [], fun f v s => ∃ (u : Option Addr) (q : Nat), v = (.slice u [g].length q : Value) ∧ ownS encWaiter [g] u q s, fun f v s => ∃ (C : Option Addr) (z : Nat), v = (.slice C G.length z : Value) ∧ ownS encWaiter G C z s, fun f v s => v = (.slice c d.length b : Value) ∧ s = [], fun f v s => v = (iv m : Value) ∧ s = [], fun f v s => v = (.slice (subP c m.toNat b 2) K.length (b - m.toNat) : Value) ∧ s = []] : List ((Nat → Value) → Value → Seg → Prop)).getD i (fun _ _ _ => False)) j f v s) [] [6, 7, 10] [6, 7] (fun _ _ _ s h => ⟨s, h⟩) (by kernel_rfl) (by kernel_rfl) (ap.preNil 11) (by kernel_rfl) (by kernel_rfl) (by kernel_rfl) (by kernel_rfl) (allOb_cons ?_ (allOb_cons ?_ (allOb_cons ?_ (allOb_cons ?_ (allOb_cons ?_ (allOb_cons ?_ (allOb_cons ?_ (allOb_cons ?_ (allOb_cons ?_ (allOb_cons ?_ (allOb_cons ?_ allOb_nil))))))))))) ?_)
 ·intro n o
  intro R b7 aq
  refine wL (E := encWaiter) ([] : List Waiter) 0 [] 142 aq ?_
  intro A x bk b8 P ar
  exact W_nil (oE (.slice A ([] : List Waiter).length x) bk ⟨A, x, rfl, P⟩ (Mem.mid ar))
 ·intro n o
  intro R bq au
  exact wR 1 [(30, .slice c d.length b)] bq (W_nil (oE (.slice c d.length b) [] ⟨by kernel_rfl, rfl⟩ au))
 ·intro n o
  intro R br av
  exact wR 1 [(31, iv m)] br (W_nil (oE (iv m) [] ⟨by kernel_rfl, rfl⟩ av))
 ·intro n o
  intro v1_ hb1_
  obtain ⟨rfl, _⟩ := hb1_
  intro v2_ hb2_
  obtain ⟨rfl, _⟩ := hb2_
  intro R bs Y
  exact wV (.slice (subP c (0 : Int).toNat b 2) J.length (b - (0 : Int).toNat)) bs (E_slice (E := encWaiter) _ _ _ _ d.length 0 m rfl (by kernel_rfl) (Or.inl ⟨rfl, rfl⟩) (Or.inr ⟨_, rfl, by kernel_rfl⟩) (by kernel_rfl) (t.mem0 Y) rfl ag) (W_nil (oE (.slice (subP c (0 : Int).toNat b 2) J.length (b - (0 : Int).toNat)) [] ⟨by kernel_rfl, rfl⟩ Y))
 ·intro n o
  intro v0_ hb0_
  obtain ⟨A, x, rfl, P⟩ := hb0_
  intro v3_ hb3_
  obtain ⟨rfl, _⟩ := hb3_
  intro R b9 Z
  refine wA 16 [iv 0, iv 0] 2 Z P ((t.mem0 Z).sliceM ag) a9 ?_
  intro B y bl ca Q aw
  exact W_nil (oE (.slice B F.length y) bl ⟨B, y, rfl, Q⟩ (Mem.takeOver aw))
 ·intro n o
  intro R bt aa
  exact wV (.agg #[iv g.Irq, iv g.Priority]) bt (eL true 2 0 (aa.blk 0 rfl)) (W_nil (oE (.agg #[iv g.Irq, iv g.Priority]) [] ⟨by kernel_rfl, rfl⟩ aa))
 ·intro n o
  intro v5_ hb5_
  obtain ⟨rfl, _⟩ := hb5_
  intro R cb ax
  refine wL (E := encWaiter) [g] 1 [iv g.Irq, iv g.Priority] 142 ax ?_
  intro u q bm cc I ay
  exact W_nil (oE (.slice u [g].length q) bm ⟨u, q, rfl, I⟩ (Mem.mid ay))
 ·intro n o
  intro v4_ hb4_
  obtain ⟨B, y, rfl, Q⟩ := hb4_
  intro v6_ hb6_
  obtain ⟨u, q, rfl, I⟩ := hb6_
  intro R cd ab
  refine wA 16 [iv 0, iv 0] 2 ab Q (I.rd ab 3 (by kernel_rfl)) ba ?_
  intro C z bn ce S az
  exact W_nil (oE (.slice C G.length z) bn ⟨C, z, rfl, S⟩ (Mem.takeOver az))
 ·intro n o
  intro R bu a0
  exact wR 1 [(37, .slice c d.length b)] bu (W_nil (oE (.slice c d.length b) [] ⟨by kernel_rfl, rfl⟩ a0))
 ·intro n o
  intro R bv a3
  exact wR 1 [(38, iv m)] bv (W_nil (oE (iv m) [] ⟨by kernel_rfl, rfl⟩ a3))
 ·intro n o
  intro v8_ hb8_
  obtain ⟨rfl, _⟩ := hb8_
  intro v9_ hb9_
  obtain ⟨rfl, _⟩ := hb9_
  intro R bw ac
  exact wV (.slice (subP c m.toNat b 2) K.length (b - m.toNat)) bw (E_slice (E := encWaiter) _ _ _ _ d.length m (d.length : Int) rfl (by kernel_rfl) (Or.inr ⟨_, rfl, by kernel_rfl⟩) (Or.inl ⟨rfl, rfl⟩) (by kernel_rfl) (t.mem0 ac) rfl ah) (W_nil (oE (.slice (subP c m.toNat b 2) K.length (b - m.toNat)) [] ⟨by kernel_rfl, rfl⟩ ac))
 intro n o
 intro v6_ hb6_
 obtain ⟨u, q, rfl, I⟩ := hb6_
 intro v7_ hb7_
 obtain ⟨C, z, rfl, S⟩ := hb7_
 intro v10_ hb10_
 obtain ⟨rfl, _⟩ := hb10_
 intro bx a4
 have ad : Mem [] w bx [[(l, .cells ⟨[iv g.Irq, iv g.Priority]⟩ 142 (0, 0))], (n 6), (n 7)] := a4
 obtain ⟨ae, bb, hm⟩ := gx_bind hm
 refine wA 16 [iv 0, iv 0] 2 ad S ((t.mem0 ad).sliceM ah) bb ?_
 intro V L bo bz bf a5
 refine wR 1 [(4, .slice V ae.length L)] bz (W_nil (N_then (G_ret ?_)))
 obtain rfl := Option.some.inj hm
 exact N_ret [.slice V ae.length L] (rC RVs_nil) (⟨V, L, bo, rfl, bf, a5.pk [2]⟩)
theorem c_s_l9Pending (w : World) (h : Queue) (n : Option Addr) (o : Nat) (am : rdS encSlot w h.Slots n o) (v : Option Addr) (t : Nat) (bb : rdS encWaiter w h.Waiting v t) {r : (List Int)} (hm : M.s_l9Pending h = some r) :
  Calls Tryz.prog 75 #[.agg #[.slice n h.Slots.length o, .slice v h.Waiting.length t]] w fun e w' => ∃ (ap : Option Addr) (ak : Nat) (ar : Seg), e = .returned (.slice ap r.length ak) ∧ ownS Gx.encI r ap ak ar ∧ Mem [] w w' [ar] := by
 unfold M.s_l9Pending at hm
 refine cE Tryz.func75 ?_
 have M0 := Mem.refl [] w
 refine G_seq (G_region (wN (.cells ⟨[.slice n h.Slots.length o, .slice v h.Waiting.length t]⟩ 85 (0, 0)) M0 ?_))
 intro c cb az
 refine wR 1 [(1, pB c 0)] cb (W_nil (N_then (G_seq (G_region (wL (E := encWaiter) ([] : List Waiter) 0 [] 142 az ?_)))))
 intro b5 ba cn au bo R
 refine wR 1 [(1, pB c 0), (8, .slice b5 ([] : List Waiter).length ba), (9, pB c 1)] au (wV (.slice v h.Waiting.length t) au (eL false 1 1 (R.blk 0 rfl)) ?_)
 obtain ⟨ai, bi, hm⟩ := gx_bind hm
 refine wA 16 [iv 0, iv 0] 1 R bo (bb.mem0 R) bi ?_
 intro ad S b7 av bp a0
 refine wR 1 [(1, pB c 0), (3, .slice ad ai.length S)] av (W_nil (N_then (G_seq (G_seq (G_region (wR 1 [(1, pB c 0), (3, .slice ad ai.length S), (4, iv 0)] av (W_nil (N_then ?_))))))))
 obtain ⟨m, b2, bm⟩ := gx_bind hm
 refine G_meet (fun a w' => ∃ (j : Option Addr), ∃ (l : Nat), ∃ (N : Seg), ownS encWaiter m j l N ∧ Mem [] w w' [N] ∧ Sat Tryz.f75.ntmps [(3, .slice j m.length l)] a) ?_ ?_
 ·refine G_block (G_while (σ := List Waiter × Int) (ρ := List Waiter) (fun b a w' => ∃ (g : Option Addr), ∃ (f : Nat), ∃ (C : Seg), ownS encWaiter b.1 g f C ∧ Mem [] w w' [[(c, .cells ⟨[.slice n h.Slots.length o, .slice v h.Waiting.length t]⟩ 85 (0, 0))], C] ∧ Sat Tryz.f75.ntmps [(1, pB c 0), (3, .slice g b.1.length f), (4, iv b.2)] a) b2 (fun a ha => ⟨ad, S, b7, bp, a0.pk [0, 1], ha.s⟩) ?_)
  clear hm
  intro b cs hm bz cf q ⟨g, f, C, Z, z, bc⟩
  refine G_use bc (G_seq (G_seq (G_region (wR 2 [(1, pB c 0), (3, .slice g b.1.length f), (4, iv b.2), (12, iv b.2), (13, pB c 0)] q (wV (.slice n h.Slots.length o) q (eL false 1 0 (z.blk 0 rfl)) (wR 2 [(1, pB c 0), (3, .slice g b.1.length f), (4, iv b.2), (16, .bool (decide (b.2 < (h.Slots.length : Int))))] q (W_nil (N_then ?_))))))))
  rcases gx_bif hm with ⟨V, hm⟩ | ⟨V, hm⟩
  ·refine gT V (G_skip (N_then (G_seq (G_block (G_seq (G_region (wR 1 [(1, pB c 0), (3, .slice g b.1.length f), (4, iv b.2), (19, pB c 0)] q (wV (.slice n h.Slots.length o) q (eL false 1 0 (z.blk 0 rfl)) (wR 1 [(1, pB c 0), (3, .slice g b.1.length f), (4, iv b.2), (20, .slice n h.Slots.length o), (21, iv b.2)] q ?_)))))))))
   obtain ⟨d, ao, hm⟩ := gx_bind hm
   refine wV (elemP n (b.2.toNat * 3)) q (eI (am.mem0 z) rfl ao) (wV (.agg #[iv d.State, iv d.Irq, iv d.Priority]) q (eE true 3 0 (b.2.toNat * 3) (am.mem0 z) ao) (wN (.cells ⟨[iv 0, iv 0, iv 0]⟩ 117 (0, 0)) z ?_))
   intro k cp a3
   refine wS true 3 0 (.agg #[iv d.State, iv d.Irq, iv d.Priority]) 2 [iv d.State, iv d.Irq, iv d.Priority] a3 rfl ?_
   intro y K
   refine W_nil (N_then (G_seq ?_))
   obtain ⟨b4, bq, bk⟩ := gx_bind hm
   refine G_meet (fun a w' => Mem [] w w' [[(c, .cells ⟨[.slice n h.Slots.length o, .slice v h.Waiting.length t]⟩ 85 (0, 0))], C, [(k, .cells ⟨[iv d.State, iv d.Irq, iv d.Priority]⟩ 117 (0, 0))]] ∧ Sat Tryz.f75.ntmps [(1, pB c 0), (3, .slice g b.1.length f), (4, iv b.2), (5, pB k 0), (31, .bool b4)] a) ?_ ?_
   ·have hm := bq
    refine G_region (wR 1 [(1, pB c 0), (3, .slice g b.1.length f), (4, iv b.2), (5, pB k 0), (24, pB k 0)] y (wV (iv d.State) y (eL false 1 0 (K.blk 2 rfl)) (wR 2 [(1, pB c 0), (3, .slice g b.1.length f), (4, iv b.2), (5, pB k 0), (27, .bool (d.State == 1))] y ?_)))
    rcases gx_bif hm with ⟨W, hm⟩ | ⟨W, hm⟩
    ·refine wK 27 true W (wR 4 [(1, pB c 0), (3, .slice g b.1.length f), (4, iv b.2), (5, pB k 0), (31, .bool true)] y (W_nil ?_))
     obtain rfl := Option.some.inj hm
     exact N_meet fun a ha => ⟨K.pk [0, 1, 2], ha.s⟩
    refine wK 27 false W (wR 1 [(1, pB c 0), (3, .slice g b.1.length f), (4, iv b.2), (5, pB k 0), (27, .bool false), (28, pB k 0)] y (wV (iv d.State) y (eL false 1 0 (K.blk 2 rfl)) (wR 2 [(1, pB c 0), (3, .slice g b.1.length f), (4, iv b.2), (5, pB k 0), (31, .bool (d.State == 3))] y (W_nil ?_))))
    obtain rfl := Option.some.inj hm
    exact N_meet fun a ha => ⟨K.pk [0, 1, 2], ha.s⟩
   intro cg D ⟨F, bd⟩
   refine N_use bd ?_
   have hm := bk
   refine N_then ?_
   obtain ⟨ac, br, bl⟩ := gx_bind hm
   refine G_meet (fun a w' => ∃ (I : Option Addr), ∃ (H : Nat), ∃ (O : Seg), ownS encWaiter ac I H O ∧ Mem [] w w' [[(c, .cells ⟨[.slice n h.Slots.length o, .slice v h.Waiting.length t]⟩ 85 (0, 0))], O] ∧ Sat Tryz.f75.ntmps [(1, pB c 0), (3, .slice I ac.length H), (4, iv b.2)] a) ?_ ?_
   ·have hm := br
    rcases gx_bif hm with ⟨X, hm⟩ | ⟨X, hm⟩
    ·refine gT X (G_region (wR 2 [(1, pB c 0), (3, .slice g b.1.length f), (4, iv b.2), (5, pB k 0), (32, .slice g b.1.length f), (33, pB k 1)] D (wV (iv d.Irq) D (eL false 1 1 (F.blk 2 rfl)) (wR 1 [(1, pB c 0), (3, .slice g b.1.length f), (4, iv b.2), (32, .slice g b.1.length f), (34, iv d.Irq), (35, pB k 2)] D (wV (iv d.Priority) D (eL false 1 2 (F.blk 2 rfl)) (wR 1 [(1, pB c 0), (3, .slice g b.1.length f), (4, iv b.2), (32, .slice g b.1.length f), (37, .agg #[iv d.Irq, iv d.Priority])] D ?_))))))
     obtain ⟨b6, b1, hm⟩ := gx_bind hm
     refine wC 130 #[.slice g b.1.length f, .agg #[iv d.Irq, iv d.Priority]] ((c_s_l9Wait D b.1 g f (Z.rd F 1 (by kernel_rfl)) (⟨d.Irq, d.Priority⟩ : Waiter) b1).mono ?_)
     rintro e_ cc ⟨aq, al, b8, rfl, bt, ay⟩
     have a4 := F.call ay
     refine ⟨_, rfl, ?_⟩
     refine wR 1 [(1, pB c 0), (3, .slice aq b6.length al), (4, iv b.2)] cc (W_nil ?_)
     obtain rfl := Option.some.inj hm
     exact N_meet fun a ha => ⟨aq, al, b8, bt, a4.pk [0, 3], ha.s⟩
    refine gF X (G_skip ?_)
    obtain rfl := Option.some.inj hm
    exact N_meet fun a ha => ⟨g, f, C, Z, F.pk [0, 1], ha.s⟩
   intro ch cd ⟨I, H, O, bs, a5, be⟩
   refine N_use be ?_
   have hm := bl
   refine N_block (N_then (G_region (wR 3 [(1, pB c 0), (3, .slice I ac.length H), (4, iv (w64 (b.2 + 1)))] cd (W_nil ?_))))
   obtain rfl := Option.some.inj hm
   exact N_loop fun a ha => ⟨_, rfl, I, H, O, bs, a5.pk [0, 1], ha.s⟩
  refine gF V (G_exit (N_then_exit (N_then_exit (N_block_eq ?_))))
  obtain rfl := Option.some.inj hm
  obtain rfl := bz _ rfl
  exact N_meet fun a ha => ⟨g, f, C, Z, z.pk [1], ha.s⟩
 intro ci cq ⟨j, l, N, aa, a6, bf⟩
 refine N_use bf ?_
 have hm := bm
 refine N_then (G_seq (G_region (wL (E := Gx.encI) ([] : List Int) 0 [] 3 a6 ?_)))
 intro ae T b9 aw bu a7
 refine wR 1 [(3, .slice j m.length l), (6, .slice ae ([] : List Int).length T)] aw (W_nil (N_then (G_seq (G_seq (G_region (wR 1 [(3, .slice j m.length l), (6, .slice ae ([] : List Int).length T), (7, iv 0)] aw (W_nil (N_then ?_))))))))
 obtain ⟨L, b3, bn⟩ := gx_bind hm
 refine G_meet (fun a w' => ∃ (B : Option Addr), ∃ (A : Nat), ∃ (Q : Seg), ownS Gx.encI L B A Q ∧ Mem [] w w' [Q] ∧ Sat Tryz.f75.ntmps [(6, .slice B L.length A)] a) ?_ ?_
 ·refine G_block (G_while (σ := List Int × Int) (ρ := List Int) (fun i a w' => ∃ (x : Option Addr), ∃ (u : Nat), ∃ (P : Seg), ownS Gx.encI i.1 x u P ∧ Mem [] w w' [N, P] ∧ Sat Tryz.f75.ntmps [(3, .slice j m.length l), (6, .slice x i.1.length u), (7, iv i.2)] a) b3 (fun a ha => ⟨ae, T, b9, bu, a7.pk [0, 1], ha.s⟩) ?_)
  clear hm
  intro i ct hm b0 cj J ⟨x, u, P, an, G, bg⟩
  refine G_use bg (G_seq (G_seq (G_region (wR 4 [(3, .slice j m.length l), (6, .slice x i.1.length u), (7, iv i.2), (43, .bool (decide (i.2 < (m.length : Int))))] J (W_nil (N_then ?_))))))
  rcases gx_bif hm with ⟨Y, hm⟩ | ⟨Y, hm⟩
  ·refine gT Y (G_skip (N_then (G_seq (G_block (G_region (wR 3 [(3, .slice j m.length l), (6, .slice x i.1.length u), (7, iv i.2), (46, .slice x i.1.length u), (47, .slice j m.length l), (48, iv i.2)] J ?_))))))
   obtain ⟨ag, ab, hm⟩ := gx_bind hm
   refine wV (elemP j (i.2.toNat * 2)) J (eI (aa.rd G 0 (by kernel_rfl)) rfl ab) (wV (elemP j (i.2.toNat * 2 + 0)) J (eF 0 (i.2.toNat * 2) 0 (aa.rd G 0 (by kernel_rfl)) ab) (wV (iv ag.Irq) J (eE false 1 0 (i.2.toNat * 2 + 0) (aa.rd G 0 (by kernel_rfl)) ab) (wL (E := Gx.encI) [ag.Irq] 1 [iv ag.Irq] 3 G ?_)))
   intro cm cl co cr bw ah
   obtain ⟨aj, bj, hm⟩ := gx_bind hm
   refine wA 8 [iv 0] 1 ah an (bw.rd ah 2 (by kernel_rfl)) bj ?_
   intro af U ca ax bx a8
   refine wR 1 [(3, .slice j m.length l), (6, .slice af aj.length U), (7, iv i.2)] ax (W_nil (N_block (N_then (G_region (wR 3 [(3, .slice j m.length l), (6, .slice af aj.length U), (7, iv (w64 (i.2 + 1)))] ax (W_nil ?_))))))
   obtain rfl := Option.some.inj hm
   exact N_loop fun a ha => ⟨_, rfl, af, U, ca, bx, a8.pk [0, 1], ha.s⟩
  refine gF Y (G_exit (N_then_exit (N_then_exit (N_block_eq ?_))))
  obtain rfl := Option.some.inj hm
  obtain rfl := b0 _ rfl
  exact N_meet fun a ha => ⟨x, u, P, an, G.pk [1], ha.s⟩
 intro ck ce ⟨B, A, Q, bv, a9, bh⟩
 refine N_use bh ?_
 have hm := bn
 refine N_then (G_seq (G_region (wR 2 [(2, .slice B L.length A)] ce (W_nil (N_then (G_ret ?_))))))
 obtain rfl := Option.some.inj hm
 exact N_ret [.slice B L.length A] (rC RVs_nil) (⟨B, A, Q, rfl, bv, a9.pk [0]⟩)
theorem c_s_l21Idle (w : World) (b : Machine) (v : Option Addr) (u : Nat) (bh : rdS encRoute w b.Routes v u) (m : Option Addr) (o : Nat) (L : rdS Gx.encB w b.Enabled m o) (n : Option Addr) (q : Nat) (N : rdS Gx.encB w b.Raised n q) (h : Option Addr) (l : Nat) (ai : rdD deepInterface w b.Cpus h l) {r : Bool} (hm : M.s_l21Idle b = some r) :
  Calls Tryz.prog 71 #[.agg #[.slice v b.Routes.length u, .slice m b.Enabled.length o, .slice n b.Raised.length q, .slice h b.Cpus.length l]] w fun e w' => e = .returned (.bool r) ∧ Mem [] w w' [] := by
 unfold M.s_l21Idle at hm
 refine cE Tryz.func71 ?_
 have M0 := Mem.refl [] w
 refine G_seq (G_region (wN (.cells ⟨[.slice v b.Routes.length u, .slice m b.Enabled.length o, .slice n b.Raised.length q, .slice h b.Cpus.length l]⟩ 32 (0, 0)) M0 ?_))
 intro c X ae
 refine wR 1 [(1, pB c 0)] X (W_nil (N_then (G_seq (G_seq (G_region (wR 1 [(1, pB c 0), (3, iv 0)] X (W_nil (N_then ?_))))))))
 obtain ⟨a4, aw, P⟩ := gx_bind hm
 refine G_meet (fun a w' => ∃ (V : Unit), a4 = .inl V ∧ Mem [] w w' [[(c, .cells ⟨[.slice v b.Routes.length u, .slice m b.Enabled.length o, .slice n b.Raised.length q, .slice h b.Cpus.length l]⟩ 32 (0, 0))]] ∧ Sat Tryz.f71.ntmps [(1, pB c 0)] a) ?_ ?_
 ·refine G_block (G_while (σ := Int) (ρ := (Unit) ⊕ (Bool)) (fun f a w' => Mem [] w w' [[(c, .cells ⟨[.slice v b.Routes.length u, .slice m b.Enabled.length o, .slice n b.Raised.length q, .slice h b.Cpus.length l]⟩ 32 (0, 0))]] ∧ Sat Tryz.f71.ntmps [(1, pB c 0), (3, iv f)] a) aw (fun a ha => ⟨ae.pk [0], ha.s⟩) ?_)
  clear hm
  intro f bl hm R ba k ⟨t, aj⟩
  refine G_use aj (G_seq (G_seq (G_region (wR 2 [(1, pB c 0), (3, iv f), (6, .bool (decide (f < 8)))] k (W_nil (N_then ?_))))))
  rcases gx_bif hm with ⟨B, hm⟩ | ⟨B, hm⟩
  ·refine gT B (G_skip (N_then (G_seq (G_block (G_seq ?_)))))
   obtain ⟨a0, ar, ap⟩ := gx_bind hm
   refine G_meet (fun a w' => Mem [] w w' [[(c, .cells ⟨[.slice v b.Routes.length u, .slice m b.Enabled.length o, .slice n b.Raised.length q, .slice h b.Cpus.length l]⟩ 32 (0, 0))]] ∧ Sat Tryz.f71.ntmps [(1, pB c 0), (3, iv f), (20, .bool a0)] a) ?_ ?_
   ·have hm := ar
    refine G_region (wR 1 [(1, pB c 0), (3, iv f), (9, pB c 1)] k (wV (.slice m b.Enabled.length o) k (eL false 1 1 (t.blk 0 rfl)) (wR 1 [(1, pB c 0), (3, iv f), (10, .slice m b.Enabled.length o), (11, iv f)] k ?_)))
    obtain ⟨aa, T, hm⟩ := gx_bind hm
    refine wV (elemP m (f.toNat * 1)) k (eI (L.mem0 t) rfl T) (wV (.bool aa) k (eE false 1 0 (f.toNat * 1) (L.mem0 t) T) (wR 1 [(1, pB c 0), (3, iv f), (14, .bool aa)] k ?_))
    rcases gx_bif hm with ⟨C, hm⟩ | ⟨C, hm⟩
    ·refine wK 14 true C (wR 1 [(1, pB c 0), (3, iv f), (14, .bool true), (15, pB c 2)] k (wV (.slice n b.Raised.length q) k (eL false 1 2 (t.blk 0 rfl)) (wR 1 [(1, pB c 0), (3, iv f), (14, .bool true), (16, .slice n b.Raised.length q), (17, iv f)] k ?_)))
     obtain ⟨ab, U, hm⟩ := gx_bind hm
     refine wV (elemP n (f.toNat * 1)) k (eI (N.mem0 t) rfl U) (wV (.bool ab) k (eE false 1 0 (f.toNat * 1) (N.mem0 t) U) (wR 1 [(1, pB c 0), (3, iv f), (20, .bool ab)] k (W_nil ?_)))
     obtain rfl := Option.some.inj hm
     exact N_meet fun a ha => ⟨t.pk [0], ha.s⟩
    refine wK 14 false C (wR 6 [(1, pB c 0), (3, iv f), (20, .bool false)] k (W_nil ?_))
    obtain rfl := Option.some.inj hm
    exact N_meet fun a ha => ⟨t.pk [0], ha.s⟩
   intro bb Y ⟨I, ak⟩
   refine N_use ak ?_
   have hm := ap
   refine N_then ?_
   rcases gx_bif hm with ⟨D, hm⟩ | ⟨D, hm⟩
   ·refine gT D (G_seq (G_region (wR 1 [(2, .bool false)] Y (W_nil (N_then (G_ret (N_block_ret (N_then_ret (N_then_ret ?_)))))))))
    obtain rfl := Option.some.inj hm
    obtain rfl := R _ rfl
    have hm := P; simp only [Sum.elim_inr] at hm
    refine N_block_ret (N_meet_ret (N_then_ret ?_))
    obtain rfl := Option.some.inj hm
    exact N_ret [.bool false] (rC RVs_nil) (⟨rfl, I.pk []⟩)
   refine gF D (G_skip (N_block (N_then (G_region (wR 3 [(1, pB c 0), (3, iv (w64 (f + 1)))] Y (W_nil ?_))))))
   obtain rfl := Option.some.inj hm
   exact N_loop fun a ha => ⟨_, rfl, I.pk [0], ha.s⟩
  refine gF B (G_exit (N_then_exit (N_then_exit (N_block_eq ?_))))
  obtain rfl := Option.some.inj hm
  obtain rfl := R _ rfl
  exact N_meet fun a ha => ⟨_, rfl, t.pk [0], ha.s⟩
 intro bc a7 ⟨V, hout_, af, al⟩
 refine N_use al ?_
 subst hout_
 have hm := P; simp only [Sum.elim_inl] at hm
 refine N_then (G_seq (G_seq (G_region (wR 1 [(1, pB c 0), (4, iv 0)] a7 (W_nil (N_then ?_))))))
 obtain ⟨a5, ax, Q⟩ := gx_bind hm
 refine G_meet (fun a w' => ∃ (W : Unit), a5 = .inl W ∧ Mem [] w w' [] ∧ Sat Tryz.f71.ntmps [] a) ?_ ?_
 ·refine G_block (G_while (σ := Int) (ρ := (Unit) ⊕ (Bool)) (fun d a w' => Mem [] w w' [[(c, .cells ⟨[.slice v b.Routes.length u, .slice m b.Enabled.length o, .slice n b.Raised.length q, .slice h b.Cpus.length l]⟩ 32 (0, 0))]] ∧ Sat Tryz.f71.ntmps [(1, pB c 0), (4, iv d)] a) ax (fun a ha => ⟨af.pk [0], ha.s⟩) ?_)
  clear hm
  intro d bm hm S bd g ⟨j, am⟩
  refine G_use am (G_seq (G_seq (G_region (wR 2 [(1, pB c 0), (4, iv d), (21, iv d), (22, pB c 3)] g (wV (.slice h b.Cpus.length l) g (eL false 1 3 (j.blk 0 rfl)) (wR 2 [(1, pB c 0), (4, iv d), (25, .bool (decide (d < (b.Cpus.length : Int))))] g (W_nil (N_then ?_))))))))
  rcases gx_bif hm with ⟨E, hm⟩ | ⟨E, hm⟩
  ·refine gT E (G_skip (N_then (G_seq (G_block (G_seq ?_)))))
   obtain ⟨a3, au, aq⟩ := gx_bind hm
   refine G_meet (fun a w' => Mem [] w w' [[(c, .cells ⟨[.slice v b.Routes.length u, .slice m b.Enabled.length o, .slice n b.Raised.length q, .slice h b.Cpus.length l]⟩ 32 (0, 0))]] ∧ Sat Tryz.f71.ntmps [(1, pB c 0), (4, iv d), (46, .bool a3)] a) ?_ ?_
   ·have hm := au
    refine G_region (wR 1 [(1, pB c 0), (4, iv d), (28, pB c 3)] g (wV (.slice h b.Cpus.length l) g (eL false 1 3 (j.blk 0 rfl)) (wR 1 [(1, pB c 0), (4, iv d), (29, .slice h b.Cpus.length l), (30, iv d)] g ?_)))
    obtain ⟨ac, ay, hm⟩ := gx_bind hm
    obtain ⟨bn, A, y, O⟩ := id ai
    obtain ⟨K, H⟩ := gxIdx_fst A ay
    refine wV (elemP h (d.toNat * 4)) g (eI (y.mem0 j) (len_fst A) H) (wV (elemP h (d.toNat * 4 + 1)) g (eF 1 (d.toNat * 4) 1 (y.mem0 j) H) (wV (.slice ((K 0).1) ac.Stack.length ((K 0).2)) g (eE false 1 1 (d.toNat * 4 + 1) (y.mem0 j) H) (wR 3 [(1, pB c 0), (4, iv d), (36, .bool (decide ((ac.Stack.length : Int) > 0)))] g ?_)))
    rcases gx_bif hm with ⟨F, hm⟩ | ⟨F, hm⟩
    ·refine wK 36 true F (wR 10 [(1, pB c 0), (4, iv d), (46, .bool true)] g (W_nil ?_))
     obtain rfl := Option.some.inj hm
     exact N_meet fun a ha => ⟨j.pk [0], ha.s⟩
    refine wK 36 false F (wR 1 [(1, pB c 0), (4, iv d), (36, .bool false), (37, pB c 3)] g (wV (.slice h b.Cpus.length l) g (eL false 1 3 (j.blk 0 rfl)) (wR 1 [(1, pB c 0), (4, iv d), (36, .bool false), (38, .slice h b.Cpus.length l), (39, iv d)] g ?_)))
    obtain ⟨x, az, hm⟩ := gx_bind hm
    obtain ⟨i, z⟩ := gxIdx_fst A az
    refine wV (elemP h (d.toNat * 4)) g (eI (y.mem0 j) (len_fst A) z) (wV (elemP h (d.toNat * 4 + 2)) g (eF 2 (d.toNat * 4) 2 (y.mem0 j) z) (wV (.agg #[.slice ((i 1).1) x.Queue.Slots.length ((i 1).2), .slice ((i 2).1) x.Queue.Waiting.length ((i 2).2)]) g (eE true 2 2 (d.toNat * 4 + 2) (y.mem0 j) z) ?_))
    obtain ⟨a6, av, hm⟩ := gx_bind hm
    refine wC 75 #[.agg #[.slice ((i 1).1) x.Queue.Slots.length ((i 1).2), .slice ((i 2).1) x.Queue.Waiting.length ((i 2).2)]] ((c_s_l9Pending g (⟨x.Queue.Slots, x.Queue.Waiting⟩ : Queue) ((i 1).1) ((i 1).2) ((O.mem0 j).at_ z 1 ⟨Slot, encSlot, x.Queue.Slots, (i 1).1, (i 1).2⟩ (by kernel_rfl)) ((i 2).1) ((i 2).2) ((O.mem0 j).at_ z 2 ⟨Waiter, encWaiter, x.Queue.Waiting, (i 2).1, (i 2).2⟩ (by kernel_rfl)) av).mono ?_)
    rintro e_ a8 ⟨bj, bg, bk, rfl, bi, ad⟩
    have ag := j.call ad
    refine ⟨_, rfl, ?_⟩
    refine wR 3 [(1, pB c 0), (4, iv d), (46, .bool (decide ((a6.length : Int) > 0)))] a8 (W_nil ?_)
    obtain rfl := Option.some.inj hm
    exact N_meet fun a ha => ⟨ag.pk [0], ha.s⟩
   intro be Z ⟨J, an⟩
   refine N_use an ?_
   have hm := aq
   refine N_then ?_
   rcases gx_bif hm with ⟨G, hm⟩ | ⟨G, hm⟩
   ·refine gT G (G_seq (G_region (wR 1 [(2, .bool false)] Z (W_nil (N_then (G_ret (N_block_ret (N_then_ret (N_then_ret ?_)))))))))
    obtain rfl := Option.some.inj hm
    obtain rfl := S _ rfl
    have hm := Q; simp only [Sum.elim_inr] at hm
    refine N_block_ret (N_meet_ret (N_then_ret ?_))
    obtain rfl := Option.some.inj hm
    exact N_ret [.bool false] (rC RVs_nil) (⟨rfl, J.pk []⟩)
   refine gF G (G_skip (N_block (N_then (G_region (wR 3 [(1, pB c 0), (4, iv (w64 (d + 1)))] Z (W_nil ?_))))))
   obtain rfl := Option.some.inj hm
   exact N_loop fun a ha => ⟨_, rfl, J.pk [0], ha.s⟩
  refine gF E (G_exit (N_then_exit (N_then_exit (N_block_eq ?_))))
  obtain rfl := Option.some.inj hm
  obtain rfl := S _ rfl
  exact N_meet fun a ha => ⟨_, rfl, j.pk [], ha.s⟩
 intro bf a9 ⟨W, hout_, ah, ao⟩
 refine N_use ao ?_
 subst hout_
 have hm := Q; simp only [Sum.elim_inl] at hm
 refine N_then (G_seq (G_region (wR 1 [(2, .bool true)] a9 (W_nil (N_then (G_ret ?_))))))
 obtain rfl := Option.some.inj hm
 exact N_ret [.bool true] (rC RVs_nil) (⟨rfl, ah.pk []⟩)
theorem c_s_IsIdle (w : World) (a : Machine) (g : Option Addr) (b : Nat) (t : rdS encRoute w a.Routes g b) (h : Option Addr) (c : Nat) (u : rdS Gx.encB w a.Enabled h c) (i : Option Addr) (d : Nat) (v : rdS Gx.encB w a.Raised i d) (j : Option Addr) (f : Nat) (x : rdD deepInterface w a.Cpus j f) {r : Bool × Bool} (hm : M.s_IsIdle a = some r) :
  Calls Tryz.prog 23 #[.agg #[.slice g a.Routes.length b, .slice h a.Enabled.length c, .slice i a.Raised.length d, .slice j a.Cpus.length f]] w fun e w' => e = .returned (.tuple #[.bool r.1, .bool r.2]) ∧ Mem [] w w' [] := by
 unfold M.s_IsIdle at hm
 refine cE Tryz.func23 ?_
 have M0 := Mem.refl [] w
 refine G_seq (G_region (wN (.cells ⟨[.slice g a.Routes.length b, .slice h a.Enabled.length c, .slice i a.Raised.length d, .slice j a.Cpus.length f]⟩ 32 (0, 0)) M0 ?_))
 intro q o l
 refine wR 2 [(1, pB q 0)] o (W_nil (N_then (G_seq (G_seq (G_region (wV (.agg #[.slice g a.Routes.length b, .slice h a.Enabled.length c, .slice i a.Raised.length d, .slice j a.Cpus.length f]) o (eL true 4 0 (l.blk 0 rfl)) ?_))))))
 obtain ⟨E, C, hm⟩ := gx_bind hm
 refine wC 54 #[.agg #[.slice g a.Routes.length b, .slice h a.Enabled.length c, .slice i a.Raised.length d, .slice j a.Cpus.length f]] ((c_s_l21Good o a g b (t.mem0 l) h c (u.mem0 l) i d (v.mem0 l) j f (x.mem0 l) C).mono ?_)
 rintro e_ m ⟨rfl, z⟩
 have k := l.call0 z
 refine ⟨_, rfl, ?_⟩
 refine wR 1 [(1, pB q 0), (6, .bool (!E))] m (W_nil (N_then ?_))
 rcases gx_bif hm with ⟨n, hm⟩ | ⟨n, hm⟩
 ·refine gT n (G_seq (G_region (wR 2 [(2, .bool false), (3, .bool false)] m (W_nil (N_then (G_ret (N_then_ret ?_)))))))
  obtain rfl := Option.some.inj hm
  exact N_ret [.bool false, .bool false] (rC (rC RVs_nil)) (⟨rfl, k.pk []⟩)
 refine gF n (G_skip (N_then (G_seq (G_region (wV (.agg #[.slice g a.Routes.length b, .slice h a.Enabled.length c, .slice i a.Raised.length d, .slice j a.Cpus.length f]) m (eL true 4 0 (k.blk 0 rfl)) ?_)))))
 obtain ⟨y, D, hm⟩ := gx_bind hm
 refine wC 71 #[.agg #[.slice g a.Routes.length b, .slice h a.Enabled.length c, .slice i a.Raised.length d, .slice j a.Cpus.length f]] ((c_s_l21Idle m a g b (t.mem0 k) h c (u.mem0 k) i d (v.mem0 k) j f (x.mem0 k) D).mono ?_)
 rintro e_ F ⟨rfl, A⟩
 have B := k.call0 A
 refine ⟨_, rfl, ?_⟩
 refine wR 2 [(2, .bool y), (3, .bool true)] F (W_nil (N_then (G_ret ?_)))
 obtain rfl := Option.some.inj hm
 exact N_ret [.bool y, .bool true] (rC (rC RVs_nil)) (⟨rfl, B.pk []⟩)
theorem c_math_bits_Len (w : World) (a : Int) {r : Int} (hm : M.math_bits_Len a = some r) :
  Calls Tryz.prog 163 #[.int .u64 a] w fun e w' => e = .returned (iv r) ∧ Mem [] w w' [] := by
 unfold M.math_bits_Len at hm
 rcases gx_bif hm with ⟨h, hm⟩ | ⟨h, hm⟩
 ·obtain rfl := Option.some.inj hm
  rw [Bool.and_eq_true, decide_eq_true_eq, decide_eq_true_eq] at h
  refine (Tryz.bits_Len a w h.1 h.2).mono ?_
  rintro e w' ⟨rfl, rfl⟩
  exact ⟨rfl, Mem.refl [] _⟩
 cases hm
theorem c_slices_insertionSortCmpFunc_214__i_compareUrgency (w : World) (y : List Waiter) (c : Option Addr) (d : Nat) (u : Seg) (bm : ownS encWaiter y c d u) (l : Int) (m : Int) (hA : ∀ q ∈ List.flatten [u], w.heap[q.1]? = some q.2) (hN : (idsOf [u]).Nodup) {r : (List Waiter)} (hm : M.slices_insertionSortCmpFunc_214__i_compareUrgency y l m = some r) :
  Calls Tryz.prog 214 #[.slice c y.length d, iv l, iv m, .func (.func 129) #[] #[]] w fun e w' => ∃ (ag : Seg), e = .returned (.tuple #[]) ∧ ownS encWaiter r c d ag ∧ r.length = y.length ∧ Mem (idsOf [u]) w w' [ag] := by
 unfold M.slices_insertionSortCmpFunc_214__i_compareUrgency at hm
 refine cE Tryz.func214 ?_
 have M0 := Mem.start' w [u] hA hN
 refine G_seq (G_region (wR 3 [(0, .slice c y.length d), (1, iv l), (2, iv m), (3, .func (.func 129) #[] #[]), (8, iv (w64 (l + 1)))] w (W_nil (N_then ?_))))
 obtain ⟨af, bq, bf⟩ := gx_bind hm
 refine G_meet (fun a w' => ∃ (F : Seg), ownS encWaiter af c d F ∧ af.length = y.length ∧ Mem (idsOf [u]) w w' [F] ∧ Sat Tryz.f214.ntmps [] a) ?_ ?_
 ·refine G_block (G_while (σ := Int × List Waiter) (ρ := List Waiter) (fun k a w' => ∃ (B : Seg), ownS encWaiter k.2 c d B ∧ k.2.length = y.length ∧ Mem (idsOf [u]) w w' [B] ∧ Sat Tryz.f214.ntmps [(0, .slice c k.2.length d), (1, iv l), (2, iv m), (3, .func (.func 129) #[] #[]), (8, iv k.1)] a) bq (fun a ha => ⟨u, bm, rfl, M0.pk [0], ha.s⟩) ?_)
  clear hm
  intro k cq hm bn cf ah ⟨B, W, U, K, a7⟩
  refine G_use a7 (G_seq (G_seq (G_region (wR 3 [(0, .slice c k.2.length d), (1, iv l), (2, iv m), (3, .func (.func 129) #[] #[]), (8, iv k.1), (14, .bool (decide (k.1 < m)))] ah (W_nil (N_then ?_))))))
  rcases gx_bif hm with ⟨H, hm⟩ | ⟨H, hm⟩
  ·refine gT H (G_skip (N_then (G_seq (G_block (G_seq (G_region (wR 2 [(0, .slice c k.2.length d), (1, iv l), (2, iv m), (3, .func (.func 129) #[] #[]), (8, iv k.1), (9, iv k.1)] ah (W_nil (N_then ?_)))))))))
   obtain ⟨D, br, bg⟩ := gx_bind hm
   refine G_meet (fun a w' => ∃ (G : Seg), ownS encWaiter D c d G ∧ D.length = y.length ∧ Mem (idsOf [u]) w w' [G] ∧ Sat Tryz.f214.ntmps [(0, .slice c D.length d), (1, iv l), (2, iv m), (3, .func (.func 129) #[] #[]), (8, iv k.1)] a) ?_ ?_
   ·refine G_block (G_while (σ := Int × List Waiter) (ρ := List Waiter) (fun b a w' => ∃ (z : Seg), ownS encWaiter b.2 c d z ∧ b.2.length = y.length ∧ Mem (idsOf [u]) w w' [z] ∧ Sat Tryz.f214.ntmps [(0, .slice c b.2.length d), (1, iv l), (2, iv m), (3, .func (.func 129) #[] #[]), (8, iv k.1), (9, iv b.1)] a) br (fun a ha => ⟨B, W, U, K.pk [0], ha.s⟩) ?_)
    clear hm
    intro b cr hm bo cg ck ⟨z, x, V, aj, a8⟩
    refine G_use a8 (G_seq (G_seq ?_))
    obtain ⟨ae, bj, be⟩ := gx_bind hm
    refine G_meet (fun a w' => Mem (idsOf [u]) w w' [z] ∧ Sat Tryz.f214.ntmps [(0, .slice c b.2.length d), (1, iv l), (2, iv m), (3, .func (.func 129) #[] #[]), (8, iv k.1), (9, iv b.1), (34, .bool ae)] a) ?_ ?_
    ·have hm := bj
     refine G_quiet (by kernel_rfl) (by kernel_rfl) aj (zR [iv b.1, iv l, .bool (decide (b.1 > l)), .bool (decide (b.1 > l))] [(0, .slice c b.2.length d), (1, iv l), (2, iv m), (3, .func (.func 129) #[] #[]), (8, iv k.1), (9, iv b.1), (21, .bool (decide (b.1 > l)))] ?_)
     rcases gx_bif hm with ⟨I, hm⟩ | ⟨I, hm⟩
     ·refine zK 21 true I (zR [.func (.func 129) #[] #[], .slice c b.2.length d, iv b.1] [(0, .slice c b.2.length d), (1, iv l), (2, iv m), (3, .func (.func 129) #[] #[]), (8, iv k.1), (9, iv b.1), (21, .bool true), (22, .func (.func 129) #[] #[]), (23, .slice c b.2.length d), (24, iv b.1)] ?_)
      obtain ⟨A, Y, hm⟩ := gx_bind hm
      refine zV (elemP c (b.1.toNat * 2)) (fun w_ M_ => (eI (x.rd M_ 0 (by kernel_rfl)) rfl Y)) (zV (.agg #[iv A.Irq, iv A.Priority]) (fun w_ M_ => (eE true 2 0 (b.1.toNat * 2) (x.rd M_ 0 (by kernel_rfl)) Y)) (zR [.slice c b.2.length d, iv b.1, iv (w64 (b.1 - 1))] [(0, .slice c b.2.length d), (1, iv l), (2, iv m), (3, .func (.func 129) #[] #[]), (8, iv k.1), (9, iv b.1), (21, .bool true), (22, .func (.func 129) #[] #[]), (26, .agg #[iv A.Irq, iv A.Priority]), (27, .slice c b.2.length d), (29, iv (w64 (b.1 - 1)))] ?_))
      obtain ⟨C, Z, hm⟩ := gx_bind hm
      refine zV (elemP c ((w64 (b.1 - 1)).toNat * 2)) (fun w_ M_ => (eI (x.rd M_ 0 (by kernel_rfl)) rfl Z)) (zV (.agg #[iv C.Irq, iv C.Priority]) (fun w_ M_ => (eE true 2 0 ((w64 (b.1 - 1)).toNat * 2) (x.rd M_ 0 (by kernel_rfl)) Z)) ?_)
      obtain ⟨E, bp, hm⟩ := gx_bind hm
      refine Z_call 129 #[.agg #[iv A.Irq, iv A.Priority], .agg #[iv C.Irq, iv C.Priority]] (iv E) (by kernel_rfl) (fun w_ => by kernel_rfl) (fun w_ M_ => (c_i_compareUrgency w_ A C bp).mono fun e w2_ h_ => ⟨h_.1, M_.call0 h_.2⟩) (zR [.bool (decide (E < 0)), .bool (decide (E < 0))] [(0, .slice c b.2.length d), (1, iv l), (2, iv m), (3, .func (.func 129) #[] #[]), (8, iv k.1), (9, iv b.1), (34, .bool (decide (E < 0)))] (Z_end fun cl ak => ?_))
      obtain rfl := Option.some.inj hm
      exact N_meet fun a ha => ⟨ak.pk [0], ha.s⟩
     refine zK 21 false I (zR [undef, undef, undef, undef, undef, undef, undef, undef, undef, undef, undef, undef, .bool false] [(0, .slice c b.2.length d), (1, iv l), (2, iv m), (3, .func (.func 129) #[] #[]), (8, iv k.1), (9, iv b.1), (34, .bool false)] (Z_end fun cm al => ?_))
     obtain rfl := Option.some.inj hm
     exact N_meet fun a ha => ⟨al.pk [0], ha.s⟩
    intro ch bu ⟨L, a9⟩
    refine N_use a9 ?_
    have hm := be
    refine N_then ?_
    rcases gx_bif hm with ⟨J, hm⟩ | ⟨J, hm⟩
    ·refine gT J (G_skip (N_then (G_seq (G_block ?_))))
     obtain ⟨g, aa, hm⟩ := gx_bind hm
     obtain ⟨t, ab, hm⟩ := gx_bind hm
     obtain ⟨cd, ac, hm⟩ := gx_bind hm
     have am : Mem (idsOf [u]) w bu ([] ++ (List.range 16).map (fun i => ([[], [], [], [], [], [], [], [], [], [], [], [], [], [], [], z] : List Seg).getD i [])) := L.pk [300000, 300001, 300002, 300003, 300004, 300005, 300006, 300007, 300008, 300009, 300010, 300011, 300012, 300013, 300014, 0]
     refine G_sub [(0, .slice c b.2.length d), (1, iv l), (2, iv m), (3, .func (.func 129) #[] #[]), (8, iv k.1), (9, iv b.1), (34, .bool ae)] (by kernel_rfl) (G_dagL 16 [[], [], [], [], [3], [], [], [6], [5, 7], [8], [], [], [10, 11], [12], [0, 1], [9, 14]] [[], [], [], [], [], [], [], [], [], [], [], [], [], [], [], []] [[], [], [], [], [], [], [], [], [], [], [], [], [], [], [], []] [[], [], [], [], [], [], [], [], [], [], [], [], [], [], [], []] [[], [], [], [], [], [], [], [], [], [], [], [], [], [], [], []] [[], [], [], [], [], [], [], [], [15], [15], [], [], [15], [15], [15], []] (fun i => ([[], [], [], [], [], [], [], [], [], [], [], [], [], [], [], z] : List Seg).getD i []) (fun i => ([fun f v s => v = (.slice c b.2.length d : Value) ∧ s = [], fun f v s => v = (iv b.1 : Value) ∧ s = [], fun f v s => v = (.slice c b.2.length d : Value) ∧ s = [], fun f v s => v = (iv b.1 : Value) ∧ s = [], fun f v s => v = (iv (w64 (b.1 - 1)) : Value) ∧ s = [], fun f v s => v = (.slice c b.2.length d : Value) ∧ s = [], fun f v s => v = (iv b.1 : Value) ∧ s = [], fun f v s => v = (iv (w64 (b.1 - 1)) : Value) ∧ s = [], fun f v s => v = (elemP c ((w64 (b.1 - 1)).toNat * 2) : Value) ∧ s = [], fun f v s => v = (.agg #[iv g.Irq, iv g.Priority] : Value) ∧ s = [], fun f v s => v = (.slice c b.2.length d : Value) ∧ s = [], fun f v s => v = (iv b.1 : Value) ∧ s = [], fun f v s => v = (elemP c (b.1.toNat * 2) : Value) ∧ s = [], fun f v s => v = (.agg #[iv t.Irq, iv t.Priority] : Value) ∧ s = [], fun f v s => v = (elemP c (b.1.toNat * 2) : Value) ∧ s = [], fun f v s => v = undef ∧ ownS encWaiter (b.2.set b.1.toNat g) c d s] : List ((Nat → Value) → Value → Seg → Prop)).getD i (fun _ _ _ => False)) (fun j f v => ∃ s, (fun i => ([fun f v s => v = (.slice c b.2.length d : Value) ∧ s = [], fun f v s => v = (iv b.1 : Value) ∧ s = [], fun f v s => v = (.slice c b.2.length d : Value) ∧ s = [], fun f v s => v = (iv b.1 : Value) ∧ s = [], fun f v s => v = (iv (w64 (b.1 - 1)) : Value) ∧ s = [], fun f v s => v = (.slice c b.2.length d : Value) ∧ s = [], fun f v s => v = (iv b.1 : Value) ∧ s = [], fun f v s => v = (iv (w64 (b.1 - 1)) : Value) ∧ s = [], fun f v s => v = (elemP c ((w64 (b.1 - 1)).toNat * 2) : Value) ∧ s = [], fun f v s => v = (.agg #[iv g.Irq, iv g.Priority] : Value) ∧ s = [], fun f v s => v = (.slice c b.2.length d : Value) ∧ s = [], fun f v s => v = (iv b.1 : Value) ∧ s = [], fun f v s => v = (elemP c (b.1.toNat * 2) : Value) ∧ s = [], fun f v s => v = (.agg #[iv t.Irq, iv t.Priority] : Value) ∧ s = [], fun f v s => v = (elemP c (b.1.toNat * 2) : Value) ∧ s = [], fun f v s => v = undef ∧ ownS encWaiter (b.2.set b.1.toNat g) c d s] : List ((Nat → Value) → Value → Seg → Prop)).getD i (fun _ _ _ => False)) j f v s) [] [2, 4, 13, 15] [15] (fun _ _ _ s h => ⟨s, h⟩) (by kernel_rfl) (by kernel_rfl) am (by kernel_rfl) (by kernel_rfl) (by kernel_rfl) (by kernel_rfl) (allOb_cons ?_ (allOb_cons ?_ (allOb_cons ?_ (allOb_cons ?_ (allOb_cons ?_ (allOb_cons ?_ (allOb_cons ?_ (allOb_cons ?_ (allOb_cons ?_ (allOb_cons ?_ (allOb_cons ?_ (allOb_cons ?_ (allOb_cons ?_ (allOb_cons ?_ (allOb_cons ?_ (allOb_cons ?_ allOb_nil)))))))))))))))) ?_)
     ·intro n o
      intro R bv an
      exact wR 1 [(37, .slice c b.2.length d)] bv (W_nil (oE (.slice c b.2.length d) [] ⟨by kernel_rfl, rfl⟩ an))
     ·intro n o
      intro R bw ao
      exact wR 1 [(38, iv b.1)] bw (W_nil (oE (iv b.1) [] ⟨by kernel_rfl, rfl⟩ ao))
     ·intro n o
      intro R bx ap
      exact wR 1 [(39, .slice c b.2.length d)] bx (W_nil (oE (.slice c b.2.length d) [] ⟨by kernel_rfl, rfl⟩ ap))
     ·intro n o
      intro R bz aq
      exact wR 1 [(40, iv b.1)] bz (W_nil (oE (iv b.1) [] ⟨by kernel_rfl, rfl⟩ aq))
     ·intro n o
      intro v3_ hb3_
      obtain ⟨rfl, _⟩ := hb3_
      intro R b0 ar
      exact wR 1 [(41, iv (w64 (b.1 - 1)))] b0 (W_nil (oE (iv (w64 (b.1 - 1))) [] ⟨by kernel_rfl, rfl⟩ ar))
     ·intro n o
      intro R b1 au
      exact wR 1 [(42, .slice c b.2.length d)] b1 (W_nil (oE (.slice c b.2.length d) [] ⟨by kernel_rfl, rfl⟩ au))
     ·intro n o
      intro R b2 av
      exact wR 1 [(43, iv b.1)] b2 (W_nil (oE (iv b.1) [] ⟨by kernel_rfl, rfl⟩ av))
     ·intro n o
      intro v6_ hb6_
      obtain ⟨rfl, _⟩ := hb6_
      intro R b3 aw
      exact wR 1 [(44, iv (w64 (b.1 - 1)))] b3 (W_nil (oE (iv (w64 (b.1 - 1))) [] ⟨by kernel_rfl, rfl⟩ aw))
     ·intro n o
      intro v5_ hb5_
      obtain ⟨rfl, _⟩ := hb5_
      intro v7_ hb7_
      obtain ⟨rfl, _⟩ := hb7_
      intro R b4 N
      exact wV (elemP c ((w64 (b.1 - 1)).toNat * 2)) b4 (eI (x.rd N 1 (by kernel_rfl)) rfl aa) (W_nil (oE (elemP c ((w64 (b.1 - 1)).toNat * 2)) [] ⟨by kernel_rfl, rfl⟩ N))
     ·intro n o
      intro v8_ hb8_
      obtain ⟨rfl, _⟩ := hb8_
      intro R b5 O
      exact wV (.agg #[iv g.Irq, iv g.Priority]) b5 (eE true 2 0 ((w64 (b.1 - 1)).toNat * 2) (x.rd O 1 (by kernel_rfl)) aa) (W_nil (oE (.agg #[iv g.Irq, iv g.Priority]) [] ⟨by kernel_rfl, rfl⟩ O))
     ·intro n o
      intro R b6 ax
      exact wR 1 [(47, .slice c b.2.length d)] b6 (W_nil (oE (.slice c b.2.length d) [] ⟨by kernel_rfl, rfl⟩ ax))
     ·intro n o
      intro R b7 ay
      exact wR 1 [(48, iv b.1)] b7 (W_nil (oE (iv b.1) [] ⟨by kernel_rfl, rfl⟩ ay))
     ·intro n o
      intro v10_ hb10_
      obtain ⟨rfl, _⟩ := hb10_
      intro v11_ hb11_
      obtain ⟨rfl, _⟩ := hb11_
      intro R b8 P
      exact wV (elemP c (b.1.toNat * 2)) b8 (eI (x.rd P 1 (by kernel_rfl)) rfl ab) (W_nil (oE (elemP c (b.1.toNat * 2)) [] ⟨by kernel_rfl, rfl⟩ P))
     ·intro n o
      intro v12_ hb12_
      obtain ⟨rfl, _⟩ := hb12_
      intro R b9 Q
      exact wV (.agg #[iv t.Irq, iv t.Priority]) b9 (eE true 2 0 (b.1.toNat * 2) (x.rd Q 1 (by kernel_rfl)) ab) (W_nil (oE (.agg #[iv t.Irq, iv t.Priority]) [] ⟨by kernel_rfl, rfl⟩ Q))
     ·intro n o
      intro v0_ hb0_
      obtain ⟨rfl, _⟩ := hb0_
      intro v1_ hb1_
      obtain ⟨rfl, _⟩ := hb1_
      intro R ca S
      exact wV (elemP c (b.1.toNat * 2)) ca (eI (x.rd S 1 (by kernel_rfl)) rfl ac) (W_nil (oE (elemP c (b.1.toNat * 2)) [] ⟨by kernel_rfl, rfl⟩ S))
     ·intro n o
      intro v9_ hb9_
      obtain ⟨rfl, _⟩ := hb9_
      intro v14_ hb14_
      obtain ⟨rfl, _⟩ := hb14_
      intro R cn az
      refine wE true 2 b.1.toNat 0 (b.1.toNat * 2) cd g (.agg #[iv g.Irq, iv g.Priority]) 0 az x (gxIdx_spec ac).2 ?_
      intro co bs bk a0
      exact W_nil (ob_none bs rfl ⟨rfl, bk⟩ a0)
     intro n o
     intro v2_ hb2_
     obtain ⟨rfl, _⟩ := hb2_
     intro v4_ hb4_
     obtain ⟨rfl, _⟩ := hb4_
     intro v13_ hb13_
     obtain ⟨rfl, _⟩ := hb13_
     intro v15_ hb15_
     obtain ⟨rfl, X⟩ := hb15_
     intro ai a3
     have T : Mem (idsOf [u]) w ai [(n 15)] := a3
     refine wX 0 (.slice c b.2.length d) (.slice c (b.2.set b.1.toNat g).length d) (by rw [@List.length_set _ b.2 b.1.toNat g]) (wX 39 (.slice c b.2.length d) (.slice c (b.2.set b.1.toNat g).length d) (by rw [@List.length_set _ b.2 b.1.toNat g]) ?_)
     obtain ⟨ce, ad, hm⟩ := gx_bind hm
     refine wV (elemP c ((w64 (b.1 - 1)).toNat * 2)) ai (eI (X.rd T 0 (by kernel_rfl)) rfl ad) (wE true 2 (w64 (b.1 - 1)).toNat 0 ((w64 (b.1 - 1)).toNat * 2) ce t (.agg #[iv t.Irq, iv t.Priority]) 0 T X (gxIdx_spec ad).2 ?_)
     intro cb bt bl a4
     refine wX 0 (.slice c (b.2.set b.1.toNat g).length d) (.slice c ((b.2.set b.1.toNat g).set (w64 (b.1 - 1)).toNat t).length d) (by rw [@List.length_set _ (b.2.set b.1.toNat g) ((w64 (b.1 - 1)).toNat) t]) (wX 39 (.slice c (b.2.set b.1.toNat g).length d) (.slice c ((b.2.set b.1.toNat g).set (w64 (b.1 - 1)).toNat t).length d) (by rw [@List.length_set _ (b.2.set b.1.toNat g) ((w64 (b.1 - 1)).toNat) t]) (W_nil (N_block (N_then (G_region (wR 3 [(0, .slice c ((b.2.set b.1.toNat g).set (w64 (b.1 - 1)).toNat t).length d), (1, iv l), (2, iv m), (3, .func (.func 129) #[] #[]), (8, iv k.1), (9, iv (w64 (b.1 - 1)))] cb (W_nil ?_)))))))
     obtain rfl := Option.some.inj hm
     exact N_loop fun a ha => ⟨_, rfl, bt, bl, (List.length_set.trans (List.length_set.trans V)), a4.pk [0], ha.s⟩
    refine gF J (G_exit (N_then_exit (N_then_exit (N_block_eq ?_))))
    obtain rfl := Option.some.inj hm
    obtain rfl := bo _ rfl
    exact N_meet fun a ha => ⟨z, x, V, L.pk [0], ha.s⟩
   intro ci cc ⟨G, bi, bd, a5, ba⟩
   refine N_use ba ?_
   have hm := bg
   refine N_block (N_then (G_region (wR 3 [(0, .slice c D.length d), (1, iv l), (2, iv m), (3, .func (.func 129) #[] #[]), (8, iv (w64 (k.1 + 1)))] cc (W_nil ?_))))
   obtain rfl := Option.some.inj hm
   exact N_loop fun a ha => ⟨_, rfl, G, bi, bd, a5.pk [0], ha.s⟩
  refine gF H (G_exit (N_then_exit (N_then_exit (N_block_eq ?_))))
  obtain rfl := Option.some.inj hm
  obtain rfl := bn _ rfl
  exact N_meet fun a ha => ⟨B, W, U, K.pk [0], ha.s⟩
 intro cj cp ⟨F, bh, bc, a6, bb⟩
 refine N_use bb ?_
 have hm := bf
 obtain rfl := Option.some.inj hm
 exact N_end [] (RVs_nil) (⟨F, rfl, bh, bc, a6.pk [0]⟩)
theorem c_slices_pdqsortCmpFunc_168__i_compareUrgency (w : World) (d : List Waiter) (c : Option Addr) (b : Nat) (i : Seg) (y : ownS encWaiter d c b i) (f : Int) (g : Int) (j : Int) (hA : ∀ q ∈ List.flatten [i], w.heap[q.1]? = some q.2) (hN : (idsOf [i]).Nodup) {r : (List Waiter)} (hm : M.slices_pdqsortCmpFunc_168__i_compareUrgency d f g j = some r) :
  Calls Tryz.prog 168 #[.slice c d.length b, iv f, iv g, iv j, .func (.func 129) #[] #[]] w fun e w' => ∃ (o : Seg), e = .returned (.tuple #[]) ∧ ownS encWaiter r c b o ∧ r.length = d.length ∧ Mem (idsOf [i]) w w' [o] := by
 unfold M.slices_pdqsortCmpFunc_168__i_compareUrgency at hm
 refine cE Tryz.func168 ?_
 have M0 := Mem.start' w [i] hA hN
 refine G_seq (G_region (wR 1 [(0, .slice c d.length b), (1, iv f), (2, iv g), (3, iv j), (4, .func (.func 129) #[] #[]), (10, .bool true)] w (W_nil (N_then (G_seq (G_region (wR 1 [(0, .slice c d.length b), (1, iv f), (2, iv g), (3, iv j), (4, .func (.func 129) #[] #[]), (10, .bool true), (11, .bool true)] w (W_nil (N_then ?_)))))))))
 obtain ⟨H, C, x⟩ := gx_bind hm
 refine G_meet (fun a w' => False) ?_ ?_
 ·refine G_block (G_while (σ := Unit) (ρ := (List Waiter)) (fun E a w' => Mem (idsOf [i]) w w' [i] ∧ Sat Tryz.f168.ntmps [(0, .slice c d.length b), (1, iv f), (2, iv g), (3, iv j), (4, .func (.func 129) #[] #[]), (10, .bool true), (11, .bool true)] a) C (fun a ha => ⟨M0.pk [0], ha.s⟩) ?_)
  clear hm
  intro E J hm A G k ⟨l, v⟩
  refine G_use v (G_block (G_seq (G_region (wR 4 [(0, .slice c d.length b), (1, iv f), (2, iv g), (3, iv j), (4, .func (.func 129) #[] #[]), (10, .bool true), (11, .bool true), (12, iv (w64 (g - f)))] k (W_nil (N_then (G_seq (G_seq (G_region (wR 2 [(0, .slice c d.length b), (1, iv f), (2, iv g), (3, iv j), (4, .func (.func 129) #[] #[]), (10, .bool true), (11, .bool true), (12, iv (w64 (g - f))), (25, .bool (decide ((w64 (g - f)) ≤ 12)))] k (W_nil (N_then ?_))))))))))))
  rcases gx_bif hm with ⟨n, hm⟩ | ⟨n, hm⟩
  ·refine gT n (G_seq (G_region (wR 4 [(26, .slice c d.length b), (27, iv f), (28, iv g), (29, .func (.func 129) #[] #[])] k ?_)))
   obtain ⟨D, B, hm⟩ := gx_bind hm
   refine wC 214 #[.slice c d.length b, iv f, iv g, .func (.func 129) #[] #[]] ((c_slices_insertionSortCmpFunc_214__i_compareUrgency k d c b i y f g (l.hasPick [0]) (l.nodupPick [0] (by kernel_rfl)) B).mono ?_)
   rintro e_ I ⟨F, rfl, z, m, t⟩
   have u := l.callF' [0] [] (by kernel_rfl) t
   refine ⟨_, rfl, ?_⟩
   refine wX 26 (.slice c d.length b) (.slice c D.length b) (by first | rw [m] | rw [m]) (W_nil (N_then (G_ret (N_then_ret (N_block_ret (N_then_ret ?_))))))
   obtain rfl := Option.some.inj hm
   obtain rfl := A _ rfl
   have hm := x
   refine N_block_ret (N_meet_ret ?_)
   obtain rfl := Option.some.inj hm
   exact N_ret [] (RVs_nil) (⟨F, rfl, z, (m.trans rfl), u.pk [0]⟩)
  cases hm
 intro _ _ h
 exact h.elim
theorem c_slices_SortFunc_128__i_compareUrgency (w : World) (a : List Waiter) (c : Option Addr) (b : Nat) (d : Seg) (n : ownS encWaiter a c b d) (hA : ∀ q ∈ List.flatten [d], w.heap[q.1]? = some q.2) (hN : (idsOf [d]).Nodup) {r : (List Waiter)} (hm : M.slices_SortFunc_128__i_compareUrgency a = some r) :
  Calls Tryz.prog 128 #[.slice c a.length b, .func (.func 129) #[] #[]] w fun e w' => ∃ (i : Seg), e = .returned (.tuple #[]) ∧ ownS encWaiter r c b i ∧ r.length = a.length ∧ Mem (idsOf [d]) w w' [i] := by
 unfold M.slices_SortFunc_128__i_compareUrgency at hm
 refine cE Tryz.func128 ?_
 have M0 := Mem.start' w [d] hA hN
 refine G_seq (G_region (wR 3 [(0, .slice c a.length b), (1, .func (.func 129) #[] #[]), (4, iv (a.length : Int))] w (W_nil (N_then (G_region (wR 4 [(1, .func (.func 129) #[] #[]), (7, .slice c a.length b), (8, iv (a.length : Int)), (10, .int .u64 (IntKind.u64.wrap (a.length : Int)))] w ?_))))))
 obtain ⟨h, t, hm⟩ := gx_bind hm
 refine wC 163 #[.int .u64 (IntKind.u64.wrap (a.length : Int))] ((c_math_bits_Len w (IntKind.u64.wrap (a.length : Int)) t).mono ?_)
 rintro e_ j ⟨rfl, k⟩
 have f := M0.call0 k
 refine ⟨_, rfl, ?_⟩
 refine wR 1 [(7, .slice c a.length b), (8, iv (a.length : Int)), (11, iv h), (12, .func (.func 129) #[] #[])] j ?_
 obtain ⟨v, u, hm⟩ := gx_bind hm
 refine wC 168 #[.slice c a.length b, iv 0, iv (a.length : Int), iv h, .func (.func 129) #[] #[]] ((c_slices_pdqsortCmpFunc_168__i_compareUrgency j a c b d n 0 (a.length : Int) h (f.hasPick [0]) (f.nodupPick [0] (by kernel_rfl)) u).mono ?_)
 rintro e_ y ⟨x, rfl, o, g, l⟩
 have m := f.callF' [0] [] (by kernel_rfl) l
 refine ⟨_, rfl, ?_⟩
 refine wX 7 (.slice c a.length b) (.slice c v.length b) (by first | rw [g] | rw [g]) (W_nil ?_)
 obtain rfl := Option.some.inj hm
 exact N_end [] (RVs_nil) (⟨x, rfl, o, (g.trans rfl), m.pk [0]⟩)
theorem c_i_pendingIrqs (w : World) (b : Queue) (h : Option Addr) (j : Nat) (av : rdS encSlot w b.Slots h j) (P : Option Addr) (K : Nat) (bo : rdS encWaiter w b.Waiting P K) {r : (List Int)} (hm : M.i_pendingIrqs b = some r) :
  Calls Tryz.prog 74 #[.agg #[.slice h b.Slots.length j, .slice P b.Waiting.length K]] w fun e w' => ∃ (a0 : Option Addr) (ar : Nat) (a4 : Seg), e = .returned (.slice a0 r.length ar) ∧ ownS Gx.encI r a0 ar a4 ∧ Mem [] w w' [a4] := by
 unfold M.i_pendingIrqs at hm
 refine cE Tryz.func74 ?_
 have M0 := Mem.refl [] w
 refine G_seq (G_region (wN (.cells ⟨[.slice h b.Slots.length j, .slice P b.Waiting.length K]⟩ 85 (0, 0)) M0 ?_))
 intro C ct bf
 refine wR 1 [(1, pB C 0)] ct (W_nil (N_then (G_seq (G_region (wL (E := encWaiter) ([] : List Waiter) 0 [] 142 bf ?_)))))
 intro cm bn c7 a7 b6 W
 refine wR 1 [(1, pB C 0), (9, .slice cm ([] : List Waiter).length bn), (10, pB C 1)] a7 (wV (.slice P b.Waiting.length K) a7 (eL false 1 1 (W.blk 0 rfl)) ?_)
 obtain ⟨Z, bw, hm⟩ := gx_bind hm
 refine wA 16 [iv 0, iv 0] 1 W b6 (bo.mem0 W) bw ?_
 intro Q L cp db b7 bg
 refine wL (E := Gx.encI) ([] : List Int) 0 [] 3 bg ?_
 intro g f G V b8 ao
 refine wR 2 [(1, pB C 0), (3, .slice Q Z.length L), (4, .slice g ([] : List Int).length f)] V (W_nil (N_then (G_seq (G_seq (G_region (wR 1 [(3, .slice Q Z.length L), (4, .slice g ([] : List Int).length f), (14, pB C 0)] V (wV (.slice h b.Slots.length j) V (eL false 1 0 (ao.blk 0 rfl)) (wR 2 [(3, .slice Q Z.length L), (4, .slice g ([] : List Int).length f), (15, .slice h b.Slots.length j), (16, iv (b.Slots.length : Int)), (17, iv 0)] V (W_nil (N_then ?_))))))))))
 obtain ⟨u, ck, b2⟩ := gx_bind hm
 refine G_meet (fun a w' => ∃ (i : Option Addr), ∃ (k : Nat), ∃ (T : Seg), ownS encWaiter u i k T ∧ Mem [] w w' [G, T] ∧ Sat Tryz.f74.ntmps [(3, .slice i u.length k), (4, .slice g ([] : List Int).length f)] a) ?_ ?_
 ·refine G_block (G_while (σ := List Waiter × Int) (ρ := List Waiter) (fun c a w' => ∃ (n : Option Addr), ∃ (m : Nat), ∃ (B : Seg), ownS encWaiter c.1 n m B ∧ Mem [] w w' [G, B] ∧ Sat Tryz.f74.ntmps [(3, .slice n c.1.length m), (4, .slice g ([] : List Int).length f), (15, .slice h b.Slots.length j), (16, iv (b.Slots.length : Int)), (17, iv c.2)] a) ck (fun a ha => ⟨Q, L, cp, b7, ao.pk [2, 1], ha.s⟩) ?_)
  clear hm
  intro c dg hm cg cy ak ⟨n, m, B, af, I, br⟩
  refine G_use br (G_seq (G_region (wR 1 [(3, .slice n c.1.length m), (4, .slice g ([] : List Int).length f), (15, .slice h b.Slots.length j), (16, iv (b.Slots.length : Int)), (17, iv c.2), (18, .bool (decide (c.2 < (b.Slots.length : Int))))] ak (W_nil (N_then (G_seq ?_))))))
  rcases gx_bif hm with ⟨ac, hm⟩ | ⟨ac, hm⟩
  ·refine gT ac (G_skip (N_then (G_seq (G_block (G_seq (G_region ?_))))))
   obtain ⟨d, az, hm⟩ := gx_bind hm
   refine wV (elemP h (c.2.toNat * 3)) ak (eI (av.mem0 I) rfl az) (wV (.agg #[iv d.State, iv d.Irq, iv d.Priority]) ak (eE true 3 0 (c.2.toNat * 3) (av.mem0 I) az) (wN (.cells ⟨[iv 0, iv 0, iv 0]⟩ 117 (0, 0)) I ?_))
   intro q dc bh
   refine wS true 3 0 (.agg #[iv d.State, iv d.Irq, iv d.Priority]) 2 [iv d.State, iv d.Irq, iv d.Priority] bh rfl ?_
   intro y J
   refine W_nil (N_then (G_seq ?_))
   obtain ⟨cl, ca, bz⟩ := gx_bind hm
   refine G_meet (fun a w' => Mem [] w w' [G, B, [(q, .cells ⟨[iv d.State, iv d.Irq, iv d.Priority]⟩ 117 (0, 0))]] ∧ Sat Tryz.f74.ntmps [(3, .slice n c.1.length m), (4, .slice g ([] : List Int).length f), (6, pB q 0), (15, .slice h b.Slots.length j), (16, iv (b.Slots.length : Int)), (17, iv c.2), (28, .bool cl)] a) ?_ ?_
   ·have hm := ca
    refine G_region (wR 1 [(3, .slice n c.1.length m), (4, .slice g ([] : List Int).length f), (6, pB q 0), (15, .slice h b.Slots.length j), (16, iv (b.Slots.length : Int)), (17, iv c.2), (21, pB q 0)] y (wV (iv d.State) y (eL false 1 0 (J.blk 2 rfl)) (wR 2 [(3, .slice n c.1.length m), (4, .slice g ([] : List Int).length f), (6, pB q 0), (15, .slice h b.Slots.length j), (16, iv (b.Slots.length : Int)), (17, iv c.2), (24, .bool (d.State == 1))] y ?_)))
    rcases gx_bif hm with ⟨ad, hm⟩ | ⟨ad, hm⟩
    ·refine wK 24 true ad (wR 4 [(3, .slice n c.1.length m), (4, .slice g ([] : List Int).length f), (6, pB q 0), (15, .slice h b.Slots.length j), (16, iv (b.Slots.length : Int)), (17, iv c.2), (28, .bool true)] y (W_nil ?_))
     obtain rfl := Option.some.inj hm
     exact N_meet fun a ha => ⟨J.pk [0, 1, 2], ha.s⟩
    refine wK 24 false ad (wR 1 [(3, .slice n c.1.length m), (4, .slice g ([] : List Int).length f), (6, pB q 0), (15, .slice h b.Slots.length j), (16, iv (b.Slots.length : Int)), (17, iv c.2), (24, .bool false), (25, pB q 0)] y (wV (iv d.State) y (eL false 1 0 (J.blk 2 rfl)) (wR 2 [(3, .slice n c.1.length m), (4, .slice g ([] : List Int).length f), (6, pB q 0), (15, .slice h b.Slots.length j), (16, iv (b.Slots.length : Int)), (17, iv c.2), (28, .bool (d.State == 3))] y (W_nil ?_))))
    obtain rfl := Option.some.inj hm
    exact N_meet fun a ha => ⟨J.pk [0, 1, 2], ha.s⟩
   intro cz al ⟨X, bs⟩
   refine N_use bs ?_
   have hm := bz
   refine N_then ?_
   obtain ⟨ag, cb, b0⟩ := gx_bind hm
   refine G_meet (fun a w' => ∃ (F : Option Addr), ∃ (D : Nat), ∃ (U : Seg), ownS encWaiter ag F D U ∧ Mem [] w w' [G, U] ∧ Sat Tryz.f74.ntmps [(3, .slice F ag.length D), (4, .slice g ([] : List Int).length f), (15, .slice h b.Slots.length j), (16, iv (b.Slots.length : Int)), (17, iv c.2)] a) ?_ ?_
   ·have hm := cb
    rcases gx_bif hm with ⟨ae, hm⟩ | ⟨ae, hm⟩
    ·refine gT ae (G_region (wR 1 [(3, .slice n c.1.length m), (4, .slice g ([] : List Int).length f), (6, pB q 0), (15, .slice h b.Slots.length j), (16, iv (b.Slots.length : Int)), (17, iv c.2), (29, .slice n c.1.length m)] al (wV (.agg #[iv d.State, iv d.Irq, iv d.Priority]) al (eL true 3 0 (X.blk 2 rfl)) ?_)))
     obtain ⟨ai, ci, hm⟩ := gx_bind hm
     refine wC 119 #[.agg #[iv d.State, iv d.Irq, iv d.Priority]] ((c_i_waiterOf al d ci).mono ?_)
     rintro e_ dd ⟨rfl, ba⟩
     have bi := X.call0 ba
     refine ⟨_, rfl, ?_⟩
     refine wL (E := encWaiter) [ai] 1 [iv ai.Irq, iv ai.Priority] 142 bi ?_
     intro c5 c3 c8 de cd ap
     obtain ⟨bl, bx, hm⟩ := gx_bind hm
     refine wA 16 [iv 0, iv 0] 1 ap af (cd.rd ap 3 (by kernel_rfl)) bx ?_
     intro a3 au cq cu ce bj
     refine wR 1 [(3, .slice a3 bl.length au), (4, .slice g ([] : List Int).length f), (15, .slice h b.Slots.length j), (16, iv (b.Slots.length : Int)), (17, iv c.2)] cu (W_nil ?_)
     obtain rfl := Option.some.inj hm
     exact N_meet fun a ha => ⟨a3, au, cq, ce, bj.pk [0, 1], ha.s⟩
    refine gF ae (G_skip ?_)
    obtain rfl := Option.some.inj hm
    exact N_meet fun a ha => ⟨n, m, B, af, X.pk [0, 1], ha.s⟩
   intro c0 cv ⟨F, D, U, cc, bk, bt⟩
   refine N_use bt ?_
   have hm := b0
   refine N_block (N_then (G_region (wR 2 [(3, .slice F ag.length D), (4, .slice g ([] : List Int).length f), (15, .slice h b.Slots.length j), (16, iv (b.Slots.length : Int)), (17, iv (w64 (c.2 + 1)))] cv (W_nil ?_))))
   obtain rfl := Option.some.inj hm
   exact N_loop fun a ha => ⟨_, rfl, F, D, U, cc, bk.pk [0, 1], ha.s⟩
  refine gF ac (G_exit (N_then_exit (N_then_exit (N_block_eq ?_))))
  obtain rfl := Option.some.inj hm
  obtain rfl := cg _ rfl
  exact N_meet fun a ha => ⟨n, m, B, af, I.pk [0, 1], ha.s⟩
 intro c1 a8 ⟨i, k, T, b9, Y, bu⟩
 refine N_use bu ?_
 have hm := b2
 refine N_then (G_seq (G_region (wR 1 [(3, .slice i u.length k), (4, .slice g ([] : List Int).length f), (35, .slice i u.length k)] a8 ?_)))
 obtain ⟨l, ch, hm⟩ := gx_bind hm
 refine wC 128 #[.slice i u.length k, .func (.func 129) #[] #[]] ((c_slices_SortFunc_128__i_compareUrgency a8 u i k T b9 (Y.hasPick [1]) (Y.nodupPick [1] (by kernel_rfl)) ch).mono ?_)
 rintro e_ cr ⟨cn, rfl, aw, N, a9⟩
 have bb := Y.callF' [1] [0] (by kernel_rfl) a9
 refine ⟨_, rfl, ?_⟩
 refine wX 3 (.slice i u.length k) (.slice i l.length k) (by first | rw [N] | rw [N]) (wX 35 (.slice i u.length k) (.slice i l.length k) (by first | rw [N] | rw [N]) (W_nil (N_then (G_seq (G_seq (G_region (wR 3 [(4, .slice g ([] : List Int).length f), (37, .slice i l.length k), (38, iv (l.length : Int)), (39, iv 0)] cr (W_nil (N_then ?_)))))))))
 obtain ⟨O, cj, b1⟩ := gx_bind hm
 refine G_meet (fun a w' => ∃ (A : Option Addr), ∃ (z : Nat), ∃ (S : Seg), ownS Gx.encI O A z S ∧ Mem [] w w' [S] ∧ Sat Tryz.f74.ntmps [(4, .slice A O.length z)] a) ?_ ?_
 ·refine G_block (G_while (σ := List Int × Int) (ρ := List Int) (fun o a w' => ∃ (x : Option Addr), ∃ (v : Nat), ∃ (R : Seg), ownS Gx.encI o.1 x v R ∧ Mem [] w w' [cn, R] ∧ Sat Tryz.f74.ntmps [(4, .slice x o.1.length v), (37, .slice i l.length k), (38, iv (l.length : Int)), (39, iv o.2)] a) cj (fun a ha => ⟨g, f, G, b8, bb.pk [1, 0], ha.s⟩) ?_)
  clear hm
  intro o df hm cf cw aj ⟨x, v, R, ax, H, bp⟩
  refine G_use bp (G_seq (G_region (wR 1 [(4, .slice x o.1.length v), (37, .slice i l.length k), (38, iv (l.length : Int)), (39, iv o.2), (40, .bool (decide (o.2 < (l.length : Int))))] aj (W_nil (N_then (G_seq ?_))))))
  rcases gx_bif hm with ⟨ab, hm⟩ | ⟨ab, hm⟩
  ·refine gT ab (G_skip (N_then (G_seq (G_block (G_seq (G_region ?_))))))
   obtain ⟨t, ay, hm⟩ := gx_bind hm
   refine wV (elemP i (o.2.toNat * 2)) aj (eI (aw.rd H 0 (by kernel_rfl)) rfl ay) (wV (.agg #[iv t.Irq, iv t.Priority]) aj (eE true 2 0 (o.2.toNat * 2) (aw.rd H 0 (by kernel_rfl)) ay) (wN (.cells ⟨[iv 0, iv 0]⟩ 142 (0, 0)) H ?_))
   intro bm c9 bc
   refine wS true 2 0 (.agg #[iv t.Irq, iv t.Priority]) 2 [iv t.Irq, iv t.Priority] bc rfl ?_
   intro a5 am
   refine W_nil (N_then (G_region (wR 2 [(4, .slice x o.1.length v), (37, .slice i l.length k), (38, iv (l.length : Int)), (39, iv o.2), (43, .slice x o.1.length v), (44, pB bm 0)] a5 (wV (iv t.Irq) a5 (eL false 1 0 (am.blk 2 rfl)) (wL (E := Gx.encI) [t.Irq] 1 [iv t.Irq] 3 am ?_)))))
   intro c4 c2 c6 da b4 an
   obtain ⟨aq, bv, hm⟩ := gx_bind hm
   refine wA 8 [iv 0] 1 an ax (b4.rd an 3 (by kernel_rfl)) bv ?_
   intro ah aa co a6 b5 bd
   refine wR 1 [(4, .slice ah aq.length aa), (37, .slice i l.length k), (38, iv (l.length : Int)), (39, iv o.2)] a6 (W_nil (N_block (N_then (G_region (wR 2 [(4, .slice ah aq.length aa), (37, .slice i l.length k), (38, iv (l.length : Int)), (39, iv (w64 (o.2 + 1)))] a6 (W_nil ?_))))))
   obtain rfl := Option.some.inj hm
   exact N_loop fun a ha => ⟨_, rfl, ah, aa, co, b5, bd.pk [0, 1], ha.s⟩
  refine gF ab (G_exit (N_then_exit (N_then_exit (N_block_eq ?_))))
  obtain rfl := Option.some.inj hm
  obtain rfl := cf _ rfl
  exact N_meet fun a ha => ⟨x, v, R, ax, H.pk [1], ha.s⟩
 intro cx cs ⟨A, z, S, b3, be, bq⟩
 refine N_use bq ?_
 have hm := b1
 refine N_then (G_seq (G_region (wR 2 [(2, .slice A O.length z)] cs (W_nil (N_then (G_ret ?_))))))
 obtain rfl := Option.some.inj hm
 exact N_ret [.slice A O.length z] (rC RVs_nil) (⟨A, z, S, rfl, b3, be.pk [0]⟩)
theorem c_i_IsIdle_1 (w : World) (b : Interface) (l : Option Addr) (k : Nat) (F : rdS Gx.encI w b.Stack l k) (h : Option Addr) (f : Nat) (u : rdS encSlot w b.Queue.Slots h f) (i : Option Addr) (g : Nat) (v : rdS encWaiter w b.Queue.Waiting i g) {r : Bool} (hm : M.i_IsIdle_1 b = some r) :
  Calls Tryz.prog 73 #[.agg #[iv b.Mask, .slice l b.Stack.length k, .slice h b.Queue.Slots.length f, .slice i b.Queue.Waiting.length g]] w fun e w' => e = .returned (.bool r) ∧ Mem [] w w' [] := by
 unfold M.i_IsIdle_1 at hm
 refine cE Tryz.func73 ?_
 have M0 := Mem.refl [] w
 refine G_seq (G_region (wN (.cells ⟨[iv b.Mask, .slice l b.Stack.length k, .slice h b.Queue.Slots.length f, .slice i b.Queue.Waiting.length g]⟩ 87 (0, 0)) M0 ?_))
 intro j c d
 refine wR 1 [(1, pB j 0)] c (W_nil (N_then (G_seq ?_)))
 obtain ⟨n, z, y⟩ := gx_bind hm
 refine G_meet (fun a w' => Mem [] w w' [] ∧ Sat Tryz.f73.ntmps [(2, .bool n)] a) ?_ ?_
 ·have hm := z
  refine G_region (wR 1 [(1, pB j 0), (3, pB j 1)] c (wV (.slice l b.Stack.length k) c (eL false 1 1 (d.blk 0 rfl)) (wR 3 [(1, pB j 0), (7, .bool (decide ((b.Stack.length : Int) > 0)))] c ?_)))
  rcases gx_bif hm with ⟨m, hm⟩ | ⟨m, hm⟩
  ·refine wK 7 true m (wR 7 [(2, .bool true)] c (W_nil ?_))
   obtain rfl := Option.some.inj hm
   exact N_meet fun a ha => ⟨d.pk [], ha.s⟩
  refine wK 7 false m (wR 1 [(7, .bool false), (8, pB j 2)] c (wV (.agg #[.slice h b.Queue.Slots.length f, .slice i b.Queue.Waiting.length g]) c (eL true 2 2 (d.blk 0 rfl)) ?_))
  obtain ⟨B, A, hm⟩ := gx_bind hm
  refine wC 74 #[.agg #[.slice h b.Queue.Slots.length f, .slice i b.Queue.Waiting.length g]] ((c_i_pendingIrqs c (⟨b.Queue.Slots, b.Queue.Waiting⟩ : Queue) h f (u.mem0 d) i g (v.mem0 d) A).mono ?_)
  rintro e_ C ⟨H, E, I, rfl, G, o⟩
  have q := d.call o
  refine ⟨_, rfl, ?_⟩
  refine wR 4 [(2, .bool (decide ((B.length : Int) > 0)))] C (W_nil ?_)
  obtain rfl := Option.some.inj hm
  exact N_meet fun a ha => ⟨q.pk [], ha.s⟩
 intro D J ⟨t, x⟩
 refine N_use x ?_
 have hm := y
 refine N_then (G_ret ?_)
 obtain rfl := Option.some.inj hm
 exact N_ret [.bool n] (rC RVs_nil) (⟨rfl, t.pk []⟩)
theorem c_slices_IndexFunc_127__i_IsIdle_1 (w : World) (c : List Interface) (g : Option Addr) (h : Nat) (B : rdD deepInterface w c g h) {r : Int} (hm : M.slices_IndexFunc_127__i_IsIdle_1 c = some r) :
  Calls Tryz.prog 127 #[.slice g c.length h, .func (.func 73) #[] #[]] w fun e w' => e = .returned (iv r) ∧ Mem [] w w' [] := by
 unfold M.slices_IndexFunc_127__i_IsIdle_1 at hm
 refine cE Tryz.func127 ?_
 have M0 := Mem.refl [] w
 refine G_seq (G_region (wR 1 [(0, .slice g c.length h), (1, .func (.func 73) #[] #[])] w (W_nil (N_then (G_seq (G_seq (G_region (wR 3 [(0, .slice g c.length h), (1, .func (.func 73) #[] #[]), (7, iv (c.length : Int)), (8, iv 0)] w (W_nil (N_then ?_))))))))))
 obtain ⟨H, F, q⟩ := gx_bind hm
 refine G_meet (fun a w' => ∃ (x : Unit), H = .inl x ∧ Mem [] w w' [] ∧ Sat Tryz.f127.ntmps [] a) ?_ ?_
 ·refine G_block (G_while (σ := Int) (ρ := (Unit) ⊕ (Int)) (fun f a w' => Mem [] w w' [] ∧ Sat Tryz.f127.ntmps [(0, .slice g c.length h), (1, .func (.func 73) #[] #[]), (7, iv (c.length : Int)), (8, iv f)] a) F (fun a ha => ⟨M0.pk [], ha.s⟩) ?_)
  clear hm
  intro f N hm t J j ⟨i, C⟩
  refine G_use C (G_seq (G_region (wR 1 [(0, .slice g c.length h), (1, .func (.func 73) #[] #[]), (7, iv (c.length : Int)), (8, iv f), (9, .bool (decide (f < (c.length : Int))))] j (W_nil (N_then (G_seq ?_))))))
  rcases gx_bif hm with ⟨l, hm⟩ | ⟨l, hm⟩
  ·refine gT l (G_skip (N_then (G_seq (G_block (G_seq (G_region (wR 2 [(0, .slice g c.length h), (1, .func (.func 73) #[] #[]), (5, iv f), (7, iv (c.length : Int)), (8, iv f)] j (W_nil (N_then (G_seq (G_region (wR 3 [(0, .slice g c.length h), (1, .func (.func 73) #[] #[]), (5, iv f), (7, iv (c.length : Int)), (8, iv f), (11, .func (.func 73) #[] #[]), (12, .slice g c.length h), (13, iv f)] j ?_))))))))))))
   obtain ⟨d, G, hm⟩ := gx_bind hm
   obtain ⟨O, v, u, n⟩ := id B
   obtain ⟨b, k⟩ := gxIdx_fst v G
   refine wV (elemP g (f.toNat * 4)) j (eI (u.mem0 i) (len_fst v) k) (wV (.agg #[iv d.Mask, .slice ((b 0).1) d.Stack.length ((b 0).2), .slice ((b 1).1) d.Queue.Slots.length ((b 1).2), .slice ((b 2).1) d.Queue.Waiting.length ((b 2).2)]) j (eE true 4 0 (f.toNat * 4) (u.mem0 i) k) ?_)
   obtain ⟨L, E, hm⟩ := gx_bind hm
   refine wC 73 #[.agg #[iv d.Mask, .slice ((b 0).1) d.Stack.length ((b 0).2), .slice ((b 1).1) d.Queue.Slots.length ((b 1).2), .slice ((b 2).1) d.Queue.Waiting.length ((b 2).2)]] ((c_i_IsIdle_1 j (⟨d.Mask, d.Stack, (⟨d.Queue.Slots, d.Queue.Waiting⟩ : Queue)⟩ : Interface) ((b 0).1) ((b 0).2) ((n.mem0 i).at_ k 0 ⟨Int, Gx.encI, d.Stack, (b 0).1, (b 0).2⟩ (by kernel_rfl)) ((b 1).1) ((b 1).2) ((n.mem0 i).at_ k 1 ⟨Slot, encSlot, d.Queue.Slots, (b 1).1, (b 1).2⟩ (by kernel_rfl)) ((b 2).1) ((b 2).2) ((n.mem0 i).at_ k 2 ⟨Waiter, encWaiter, d.Queue.Waiting, (b 2).1, (b 2).2⟩ (by kernel_rfl)) E).mono ?_)
   rintro e_ y ⟨rfl, z⟩
   have o := i.call0 z
   refine ⟨_, rfl, ?_⟩
   refine W_nil (N_then ?_)
   rcases gx_bif hm with ⟨m, hm⟩ | ⟨m, hm⟩
   ·refine gT m (G_seq (G_region (wR 2 [(4, iv f)] y (W_nil (N_then (G_ret (N_block_ret (N_then_ret (N_then_ret ?_)))))))))
    obtain rfl := Option.some.inj hm
    obtain rfl := t _ rfl
    have hm := q; simp only [Sum.elim_inr] at hm
    refine N_block_ret (N_meet_ret (N_then_ret ?_))
    obtain rfl := Option.some.inj hm
    exact N_ret [iv f] (rC RVs_nil) (⟨rfl, o.pk []⟩)
   refine gF m (G_skip (N_block (N_then (G_region (wR 2 [(0, .slice g c.length h), (1, .func (.func 73) #[] #[]), (7, iv (c.length : Int)), (8, iv (w64 (f + 1)))] y (W_nil ?_))))))
   obtain rfl := Option.some.inj hm
   exact N_loop fun a ha => ⟨_, rfl, o.pk [], ha.s⟩
  refine gF l (G_exit (N_then_exit (N_then_exit (N_block_eq ?_))))
  obtain rfl := Option.some.inj hm
  obtain rfl := t _ rfl
  exact N_meet fun a ha => ⟨_, rfl, i.pk [], ha.s⟩
 intro K I ⟨x, hout_, A, D⟩
 refine N_use D ?_
 subst hout_
 have hm := q; simp only [Sum.elim_inl] at hm
 refine N_then (G_seq (G_region (wR 1 [(4, iv (-1))] I (W_nil (N_then (G_ret ?_))))))
 obtain rfl := Option.some.inj hm
 exact N_ret [iv (-1)] (rC RVs_nil) (⟨rfl, A.pk []⟩)
theorem c_slices_ContainsFunc_72__i_IsIdle_1 (w : World) (a : List Interface) (c : Option Addr) (b : Nat) (h : rdD deepInterface w a c b) {r : Bool} (hm : M.slices_ContainsFunc_72__i_IsIdle_1 a = some r) :
  Calls Tryz.prog 72 #[.slice c a.length b, .func (.func 73) #[] #[]] w fun e w' => e = .returned (.bool r) ∧ Mem [] w w' [] := by
 unfold M.slices_ContainsFunc_72__i_IsIdle_1 at hm
 refine cE Tryz.func72 ?_
 have M0 := Mem.refl [] w
 refine G_seq (G_region (wR 1 [(0, .slice c a.length b), (1, .func (.func 73) #[] #[])] w (W_nil (N_then (G_seq (G_region (wR 2 [(5, .slice c a.length b), (6, .func (.func 73) #[] #[])] w ?_)))))))
 obtain ⟨d, i, hm⟩ := gx_bind hm
 refine wC 127 #[.slice c a.length b, .func (.func 73) #[] #[]] ((c_slices_IndexFunc_127__i_IsIdle_1 w a c b (h.mem0 M0) i).mono ?_)
 rintro e_ j ⟨rfl, f⟩
 have g := M0.call0 f
 refine ⟨_, rfl, ?_⟩
 refine wR 2 [(4, .bool (decide (d ≥ 0)))] j (W_nil (N_then (G_ret ?_)))
 obtain rfl := Option.some.inj hm
 exact N_ret [.bool (decide (d ≥ 0))] (rC RVs_nil) (⟨rfl, g.pk []⟩)
theorem c_i_IsIdle (w : World) (b : Machine) (n : Option Addr) (m : Nat) (U : rdS encRoute w b.Routes n m) (j : Option Addr) (l : Nat) (x : rdS Gx.encB w b.Enabled j l) (c : Option Addr) (f : Nat) (y : rdS Gx.encB w b.Raised c f) (k : Option Addr) (i : Nat) (H : rdD deepInterface w b.Cpus k i) {r : Bool × Bool} (hm : M.i_IsIdle b = some r) :
  Calls Tryz.prog 24 #[.agg #[.slice n b.Routes.length m, .slice j b.Enabled.length l, .slice c b.Raised.length f, .slice k b.Cpus.length i]] w fun e w' => e = .returned (.tuple #[.bool r.1, .bool r.2]) ∧ Mem [] w w' [] := by
 unfold M.i_IsIdle at hm
 refine cE Tryz.func24 ?_
 have M0 := Mem.refl [] w
 refine G_seq (G_region (wN (.cells ⟨[.slice n b.Routes.length m, .slice j b.Enabled.length l, .slice c b.Raised.length f, .slice k b.Cpus.length i]⟩ 32 (0, 0)) M0 ?_))
 intro d D q
 refine wR 2 [(1, pB d 0)] D (W_nil (N_then (G_seq (G_seq (G_region (wV (.agg #[.slice n b.Routes.length m, .slice j b.Enabled.length l, .slice c b.Raised.length f, .slice k b.Cpus.length i]) D (eL true 4 0 (q.blk 0 rfl)) ?_))))))
 obtain ⟨af, ab, hm⟩ := gx_bind hm
 refine wC 15 #[.agg #[.slice n b.Routes.length m, .slice j b.Enabled.length l, .slice c b.Raised.length f, .slice k b.Cpus.length i]] ((c_i_IsMachine D b n m (U.mem0 q) j l (x.mem0 q) c f (y.mem0 q) k i (H.mem0 q) ab).mono ?_)
 rintro e_ t ⟨rfl, S⟩
 have u := q.call0 S
 refine ⟨_, rfl, ?_⟩
 refine wR 1 [(1, pB d 0), (8, .bool (!af))] t (W_nil (N_then ?_))
 rcases gx_bif hm with ⟨z, hm⟩ | ⟨z, hm⟩
 ·refine gT z (G_seq (G_region (wR 2 [(2, .bool false), (3, .bool false)] t (W_nil (N_then (G_ret (N_then_ret ?_)))))))
  obtain rfl := Option.some.inj hm
  exact N_ret [.bool false, .bool false] (rC (rC RVs_nil)) (⟨rfl, u.pk []⟩)
 refine gF z (G_skip (N_then (G_seq (G_seq (G_region (wR 1 [(1, pB d 0), (9, pB d 2)] t (wV (.slice c b.Raised.length f) t (eL false 1 2 (u.blk 0 rfl)) (wR 2 [(1, pB d 0), (10, .slice c b.Raised.length f), (11, iv (b.Raised.length : Int)), (12, iv 0)] t (W_nil (N_then ?_))))))))))
 obtain ⟨ae, ac, I⟩ := gx_bind hm
 refine G_meet (fun a w' => ∃ (N : Unit), ae = .inl N ∧ Mem [] w w' [[(d, .cells ⟨[.slice n b.Routes.length m, .slice j b.Enabled.length l, .slice c b.Raised.length f, .slice k b.Cpus.length i]⟩ 32 (0, 0))]] ∧ Sat Tryz.f24.ntmps [(1, pB d 0)] a) ?_ ?_
 ·refine G_block (G_while (σ := Int) (ρ := (Unit) ⊕ (Bool × Bool)) (fun g a w' => Mem [] w w' [[(d, .cells ⟨[.slice n b.Routes.length m, .slice j b.Enabled.length l, .slice c b.Raised.length f, .slice k b.Cpus.length i]⟩ 32 (0, 0))]] ∧ Sat Tryz.f24.ntmps [(1, pB d 0), (10, .slice c b.Raised.length f), (11, iv (b.Raised.length : Int)), (12, iv g)] a) ac (fun a ha => ⟨u.pk [0], ha.s⟩) ?_)
  clear hm
  intro g ak hm J ah h ⟨o, V⟩
  refine G_use V (G_seq (G_region (wR 1 [(1, pB d 0), (10, .slice c b.Raised.length f), (11, iv (b.Raised.length : Int)), (12, iv g), (13, .bool (decide (g < (b.Raised.length : Int))))] h (W_nil (N_then (G_seq ?_))))))
  rcases gx_bif hm with ⟨A, hm⟩ | ⟨A, hm⟩
  ·refine gT A (G_skip (N_then (G_seq (G_block (G_seq (G_region (wR 1 [(1, pB d 0), (10, .slice c b.Raised.length f), (11, iv (b.Raised.length : Int)), (12, iv g), (14, iv g)] h ?_)))))))
   obtain ⟨F, K, hm⟩ := gx_bind hm
   refine wV (elemP c (g.toNat * 1)) h (eI (y.mem0 o) rfl K) (wV (.bool F) h (eE false 1 0 (g.toNat * 1) (y.mem0 o) K) (wR 2 [(1, pB d 0), (4, iv g), (5, .bool F), (10, .slice c b.Raised.length f), (11, iv (b.Raised.length : Int)), (12, iv g)] h (W_nil (N_then (G_seq ?_)))))
   obtain ⟨ad, Z, Y⟩ := gx_bind hm
   refine G_meet (fun a w' => Mem [] w w' [[(d, .cells ⟨[.slice n b.Routes.length m, .slice j b.Enabled.length l, .slice c b.Raised.length f, .slice k b.Cpus.length i]⟩ 32 (0, 0))]] ∧ Sat Tryz.f24.ntmps [(1, pB d 0), (10, .slice c b.Raised.length f), (11, iv (b.Raised.length : Int)), (12, iv g), (24, .bool ad)] a) ?_ ?_
   ·have hm := Z
    refine G_region (wR 2 [(1, pB d 0), (4, iv g), (10, .slice c b.Raised.length f), (11, iv (b.Raised.length : Int)), (12, iv g), (18, .bool F)] h ?_)
    rcases gx_bif hm with ⟨B, hm⟩ | ⟨B, hm⟩
    ·refine wK 18 true B (wR 1 [(1, pB d 0), (4, iv g), (10, .slice c b.Raised.length f), (11, iv (b.Raised.length : Int)), (12, iv g), (18, .bool true), (19, pB d 1)] h (wV (.slice j b.Enabled.length l) h (eL false 1 1 (o.blk 0 rfl)) (wR 1 [(1, pB d 0), (10, .slice c b.Raised.length f), (11, iv (b.Raised.length : Int)), (12, iv g), (18, .bool true), (20, .slice j b.Enabled.length l), (21, iv g)] h ?_)))
     obtain ⟨Q, L, hm⟩ := gx_bind hm
     refine wV (elemP j (g.toNat * 1)) h (eI (x.mem0 o) rfl L) (wV (.bool Q) h (eE false 1 0 (g.toNat * 1) (x.mem0 o) L) (wR 1 [(1, pB d 0), (10, .slice c b.Raised.length f), (11, iv (b.Raised.length : Int)), (12, iv g), (24, .bool Q)] h (W_nil ?_)))
     obtain rfl := Option.some.inj hm
     exact N_meet fun a ha => ⟨o.pk [0], ha.s⟩
    refine wK 18 false B (wR 6 [(1, pB d 0), (10, .slice c b.Raised.length f), (11, iv (b.Raised.length : Int)), (12, iv g), (24, .bool false)] h (W_nil ?_))
    obtain rfl := Option.some.inj hm
    exact N_meet fun a ha => ⟨o.pk [0], ha.s⟩
   intro ai P ⟨G, W⟩
   refine N_use W ?_
   have hm := Y
   refine N_then ?_
   rcases gx_bif hm with ⟨C, hm⟩ | ⟨C, hm⟩
   ·refine gT C (G_seq (G_region (wR 2 [(2, .bool false), (3, .bool true)] P (W_nil (N_then (G_ret (N_block_ret (N_then_ret (N_then_ret ?_)))))))))
    obtain rfl := Option.some.inj hm
    obtain rfl := J _ rfl
    have hm := I; simp only [Sum.elim_inr] at hm
    refine N_block_ret (N_meet_ret (N_then_ret ?_))
    obtain rfl := Option.some.inj hm
    exact N_ret [.bool false, .bool true] (rC (rC RVs_nil)) (⟨rfl, G.pk []⟩)
   refine gF C (G_skip (N_block (N_then (G_region (wR 2 [(1, pB d 0), (10, .slice c b.Raised.length f), (11, iv (b.Raised.length : Int)), (12, iv (w64 (g + 1)))] P (W_nil ?_))))))
   obtain rfl := Option.some.inj hm
   exact N_loop fun a ha => ⟨_, rfl, G.pk [0], ha.s⟩
  refine gF A (G_exit (N_then_exit (N_then_exit (N_block_eq ?_))))
  obtain rfl := Option.some.inj hm
  obtain rfl := J _ rfl
  exact N_meet fun a ha => ⟨_, rfl, o.pk [0], ha.s⟩
 intro aj E ⟨N, hout_, v, X⟩
 refine N_use X ?_
 subst hout_
 have hm := I; simp only [Sum.elim_inl] at hm
 refine N_then (G_seq (G_region (wR 1 [(26, pB d 3)] E (wV (.slice k b.Cpus.length i) E (eL false 1 3 (v.blk 0 rfl)) ?_))))
 obtain ⟨O, aa, hm⟩ := gx_bind hm
 refine wC 72 #[.slice k b.Cpus.length i, .func (.func 73) #[] #[]] ((c_slices_ContainsFunc_72__i_IsIdle_1 E b.Cpus k i (H.mem0 v) aa).mono ?_)
 rintro e_ ag ⟨rfl, R⟩
 have T := v.call0 R
 refine ⟨_, rfl, ?_⟩
 refine wR 3 [(2, .bool (!O)), (3, .bool true)] ag (W_nil (N_then (G_ret ?_)))
 obtain rfl := Option.some.inj hm
 exact N_ret [.bool (!O), .bool true] (rC (rC RVs_nil)) (⟨rfl, T.pk []⟩)
theorem c_l_FnExactIsIdle (w : World) (b : Machine) (n : Option Addr) (g : Nat) (ai : rdS encRoute w b.Routes n g) (o : Option Addr) (k : Nat) (aj : rdS Gx.encB w b.Enabled o k) (q : Option Addr) (l : Nat) (ak : rdS Gx.encB w b.Raised q l) (t : Option Addr) (m : Nat) (al : rdD deepInterface w b.Cpus t m) {r : Bool} (hm : M.l_FnExactIsIdle b = some r) :
  Calls Tryz.prog 5 #[.agg #[.slice n b.Routes.length g, .slice o b.Enabled.length k, .slice q b.Raised.length l, .slice t b.Cpus.length m]] w fun e w' => e = .returned (.bool r) ∧ Mem [] w w' [] := by
 unfold M.l_FnExactIsIdle at hm
 refine cE Tryz.func5 ?_
 have M0 := Mem.refl [] w
 refine G_seq (G_region (wN (.cells ⟨[.slice n b.Routes.length g, .slice o b.Enabled.length k, .slice q b.Raised.length l, .slice t b.Cpus.length m]⟩ 26 (0, 0)) M0 ?_))
 intro u af Y
 refine wR 1 [(1, pB u 0)] af (W_nil (N_then (G_seq (G_region (wR 1 [(1, pB u 0), (3, iv 1048576)] af (W_nil (N_then (G_seq (G_region (wV (.agg #[.slice n b.Routes.length g, .slice o b.Enabled.length k, .slice q b.Raised.length l, .slice t b.Cpus.length m]) af (eL true 4 0 (Y.blk 0 rfl)) (wR 1 [(1, pB u 0), (3, iv 1048576), (9, .agg #[.slice n b.Routes.length g, .slice o b.Enabled.length k, .slice q b.Raised.length l, .slice t b.Cpus.length m]), (10, iv 1048576)] af ?_)))))))))))
 obtain ⟨bq, cd, hm⟩ := gx_bind hm
 refine wC 12 #[.agg #[.slice n b.Routes.length g, .slice o b.Enabled.length k, .slice q b.Raised.length l, .slice t b.Cpus.length m], iv 1048576] ((c_l_szMachine af b n g (ai.mem0 Y) o k (aj.mem0 Y) q l (ak.mem0 Y) t m (al.mem0 Y) 1048576 cd).mono ?_)
 rintro e_ ag ⟨rfl, bv⟩
 have W := Y.call0 bv
 refine ⟨_, rfl, ?_⟩
 refine wR 1 [(1, pB u 0), (3, iv bq)] ag (W_nil (N_then (G_seq (G_seq (G_region (wR 2 [(1, pB u 0), (13, .bool (decide (bq < 0)))] ag (W_nil (N_then ?_))))))))
 rcases gx_bif hm with ⟨ar, hm⟩ | ⟨ar, hm⟩
 ·refine gT ar (G_seq (G_region (wR 1 [(2, .bool true)] ag (W_nil (N_then (G_ret (N_then_ret ?_)))))))
  obtain rfl := Option.some.inj hm
  exact N_ret [.bool true] (rC RVs_nil) (⟨rfl, W.pk []⟩)
 refine gF ar (G_skip (N_then (G_seq (G_region (wV (.agg #[.slice n b.Routes.length g, .slice o b.Enabled.length k, .slice q b.Raised.length l, .slice t b.Cpus.length m]) ag (eL true 4 0 (W.blk 0 rfl)) ?_)))))
 obtain ⟨ae, ce, hm⟩ := gx_bind hm
 refine wC 14 #[.agg #[.slice n b.Routes.length g, .slice o b.Enabled.length k, .slice q b.Raised.length l, .slice t b.Cpus.length m]] ((c_l_toMachine ag b n g (ai.mem0 W) o k (aj.mem0 W) q l (ak.mem0 W) t m (al.mem0 W) ce).mono ?_)
 rintro e_ cm ⟨bm, bd, co, bn, be, cp, bo, bf, cq, bp, bg, cr, cs, rfl, b6, b7, b8, b9, bw⟩
 have ac := W.call bw
 refine ⟨_, rfl, ?_⟩
 obtain ⟨X, cf, hm⟩ := gx_bind hm
 refine wC 23 #[.agg #[.slice bm ae.Routes.length bd, .slice bn ae.Enabled.length be, .slice bo ae.Raised.length bf, .slice bp ae.Cpus.length bg]] ((c_s_IsIdle cm ae bm bd (b6.rd ac 1 (by kernel_rfl)) bn be (b7.rd ac 2 (by kernel_rfl)) bo bf (b8.rd ac 3 (by kernel_rfl)) bp bg (b9.rd ac 4 (by kernel_rfl) 5 (by kernel_rfl)) cf).mono ?_)
 rintro e_ a7 ⟨rfl, bx⟩
 have Z := ac.call0 bx
 refine ⟨_, rfl, ?_⟩
 refine wR 5 [(1, pB u 0), (4, .bool X.1), (5, .bool X.2)] a7 (W_nil (N_then (G_seq (G_region (wV (.agg #[.slice n b.Routes.length g, .slice o b.Enabled.length k, .slice q b.Raised.length l, .slice t b.Cpus.length m]) a7 (eL true 4 0 (Z.blk 0 rfl)) ?_)))))
 obtain ⟨c, cg, hm⟩ := gx_bind hm
 refine wC 14 #[.agg #[.slice n b.Routes.length g, .slice o b.Enabled.length k, .slice q b.Raised.length l, .slice t b.Cpus.length m]] ((c_l_toMachine a7 b n g (ai.mem0 Z) o k (aj.mem0 Z) q l (ak.mem0 Z) t m (al.mem0 Z) cg).mono ?_)
 rintro e_ cu ⟨B, x, ay, C, y, az, D, z, a0, E, A, a3, a4, rfl, bh, bi, bj, bk, bz⟩
 have b1 := Z.call bz
 refine ⟨_, rfl, ?_⟩
 refine wN (.cells ⟨[.slice none 0 0, .slice none 0 0, .slice none 0 0, .slice none 0 0]⟩ 32 (0, 0)) b1 ?_
 intro V cv b2
 refine wS true 4 0 (.agg #[.slice B c.Routes.length x, .slice C c.Enabled.length y, .slice D c.Raised.length z, .slice E c.Cpus.length A]) 11 [.slice B c.Routes.length x, .slice C c.Enabled.length y, .slice D c.Raised.length z, .slice E c.Cpus.length A] b2 rfl ?_
 intro br aa
 refine W_nil (N_then (G_seq (G_region (wV (.agg #[.slice B c.Routes.length x, .slice C c.Enabled.length y, .slice D c.Raised.length z, .slice E c.Cpus.length A]) br (eL true 4 0 (aa.blk 11 rfl)) ?_))))
 obtain ⟨ad, ca, hm⟩ := gx_bind hm
 refine wC 24 #[.agg #[.slice B c.Routes.length x, .slice C c.Enabled.length y, .slice D c.Raised.length z, .slice E c.Cpus.length A]] ((c_i_IsIdle br c B x (bh.rd aa 6 (by kernel_rfl)) C y (bi.rd aa 7 (by kernel_rfl)) D z (bj.rd aa 8 (by kernel_rfl)) E A (bk.rd aa 9 (by kernel_rfl) 10 (by kernel_rfl)) ca).mono ?_)
 rintro e_ am ⟨rfl, bs⟩
 have a8 := aa.call0 bs
 refine ⟨_, rfl, ?_⟩
 refine wR 5 [(1, pB u 0), (4, .bool X.1), (5, .bool X.2), (6, pB V 0), (7, .bool ad.1), (8, .bool ad.2)] am (W_nil (N_then (G_seq (G_seq ?_))))
 obtain ⟨bl, b5, b4⟩ := gx_bind hm
 refine G_meet (fun a w' => Mem [] w w' [[(u, .cells ⟨[.slice n b.Routes.length g, .slice o b.Enabled.length k, .slice q b.Raised.length l, .slice t b.Cpus.length m]⟩ 26 (0, 0))], ay, az, a0, a3, a4, [(V, .cells ⟨[.slice B c.Routes.length x, .slice C c.Enabled.length y, .slice D c.Raised.length z, .slice E c.Cpus.length A]⟩ 32 (0, 0))]] ∧ Sat Tryz.f5.ntmps [(1, pB u 0), (6, pB V 0), (34, .bool bl)] a) ?_ ?_
 ·have hm := b5
  refine G_region (wR 4 [(1, pB u 0), (5, .bool X.2), (6, pB V 0), (8, .bool ad.2), (30, .bool (!(ad.1 == X.1)))] am ?_)
  rcases gx_bif hm with ⟨ao, hm⟩ | ⟨ao, hm⟩
  ·refine wK 30 true ao (wR 4 [(1, pB u 0), (6, pB V 0), (34, .bool true)] am (W_nil ?_))
   obtain rfl := Option.some.inj hm
   exact N_meet fun a ha => ⟨a8.pk [0, 6, 7, 8, 9, 10, 11], ha.s⟩
  refine wK 30 false ao (wR 4 [(1, pB u 0), (6, pB V 0), (34, .bool (!(ad.2 == X.2)))] am (W_nil ?_))
  obtain rfl := Option.some.inj hm
  exact N_meet fun a ha => ⟨a8.pk [0, 6, 7, 8, 9, 10, 11], ha.s⟩
 intro cn ci ⟨a9, b3⟩
 refine N_use b3 ?_
 have hm := b4
 refine N_then ?_
 rcases gx_bif hm with ⟨ap, hm⟩ | ⟨ap, hm⟩
 ·refine gT ap (G_seq (G_region (wR 1 [(2, .bool false)] ci (W_nil (N_then (G_ret (N_then_ret ?_)))))))
  obtain rfl := Option.some.inj hm
  exact N_ret [.bool false] (rC RVs_nil) (⟨rfl, a9.pk []⟩)
 refine gF ap (G_skip (N_then (G_seq (G_seq ?_))))
 obtain ⟨d, cb, hm⟩ := gx_bind hm
 refine G_sub [(1, pB u 0), (6, pB V 0), (34, .bool bl)] (by kernel_rfl) (G_dagL 3 [[], [], [1]] [[], [], []] [[], [], []] [[], [], []] [[], [], []] [[], [], []] (fun _ => []) (fun i => ([fun f v s => v = (.agg #[.slice B c.Routes.length x, .slice C c.Enabled.length y, .slice D c.Raised.length z, .slice E c.Cpus.length A] : Value) ∧ s = [], fun f v s => v = (.agg #[.slice n b.Routes.length g, .slice o b.Enabled.length k, .slice q b.Raised.length l, .slice t b.Cpus.length m] : Value) ∧ s = [], fun f v s => ∃ (K : Option Addr) (G : Nat) (P : Seg), ∃ (L : Option Addr) (H : Nat) (Q : Seg), ∃ (N : Option Addr) (I : Nat) (S : Seg), ∃ (O : Option Addr) (J : Nat) (T : Seg) (U : Seg), v = (.agg #[.slice K d.Routes.length G, .slice L d.Enabled.length H, .slice N d.Raised.length I, .slice O d.Cpus.length J] : Value) ∧ s = (P ++ (Q ++ (S ++ (T ++ U)))) ∧ ownS encRoute d.Routes K G P ∧ ownS Gx.encB d.Enabled L H Q ∧ ownS Gx.encB d.Raised N I S ∧ ownD deepInterface d.Cpus O J T U] : List ((Nat → Value) → Value → Seg → Prop)).getD i (fun _ _ _ => False)) (fun j f v => ∃ s, (fun i => ([fun f v s => v = (.agg #[.slice B c.Routes.length x, .slice C c.Enabled.length y, .slice D c.Raised.length z, .slice E c.Cpus.length A] : Value) ∧ s = [], fun f v s => v = (.agg #[.slice n b.Routes.length g, .slice o b.Enabled.length k, .slice q b.Raised.length l, .slice t b.Cpus.length m] : Value) ∧ s = [], fun f v s => ∃ (K : Option Addr) (G : Nat) (P : Seg), ∃ (L : Option Addr) (H : Nat) (Q : Seg), ∃ (N : Option Addr) (I : Nat) (S : Seg), ∃ (O : Option Addr) (J : Nat) (T : Seg) (U : Seg), v = (.agg #[.slice K d.Routes.length G, .slice L d.Enabled.length H, .slice N d.Raised.length I, .slice O d.Cpus.length J] : Value) ∧ s = (P ++ (Q ++ (S ++ (T ++ U)))) ∧ ownS encRoute d.Routes K G P ∧ ownS Gx.encB d.Enabled L H Q ∧ ownS Gx.encB d.Raised N I S ∧ ownD deepInterface d.Cpus O J T U] : List ((Nat → Value) → Value → Seg → Prop)).getD i (fun _ _ _ => False)) j f v s) [] [0, 2] [2] (fun _ _ _ s h => ⟨s, h⟩) (by kernel_rfl) (by kernel_rfl) (a9.preNil 3) (by kernel_rfl) (by kernel_rfl) (by kernel_rfl) (by kernel_rfl) (allOb_cons ?_ (allOb_cons ?_ (allOb_cons ?_ allOb_nil))) ?_)
 ·intro ah an
  intro R cj ba
  exact wV (.agg #[.slice B c.Routes.length x, .slice C c.Enabled.length y, .slice D c.Raised.length z, .slice E c.Cpus.length A]) cj (eL true 4 0 (ba.blk 6 rfl)) (W_nil (oE (.agg #[.slice B c.Routes.length x, .slice C c.Enabled.length y, .slice D c.Raised.length z, .slice E c.Cpus.length A]) [] ⟨by kernel_rfl, rfl⟩ ba))
 ·intro ah an
  intro R ck bb
  exact wV (.agg #[.slice n b.Routes.length g, .slice o b.Enabled.length k, .slice q b.Raised.length l, .slice t b.Cpus.length m]) ck (eL true 4 0 (bb.blk 0 rfl)) (W_nil (oE (.agg #[.slice n b.Routes.length g, .slice o b.Enabled.length k, .slice q b.Raised.length l, .slice t b.Cpus.length m]) [] ⟨by kernel_rfl, rfl⟩ bb))
 ·intro ah an
  intro v1_ hb1_
  obtain ⟨rfl, _⟩ := hb1_
  intro R cl ab
  refine wC 14 #[.agg #[.slice n b.Routes.length g, .slice o b.Enabled.length k, .slice q b.Raised.length l, .slice t b.Cpus.length m]] ((c_l_toMachine cl b n g (ai.mem0 ab) o k (aj.mem0 ab) q l (ak.mem0 ab) t m (al.mem0 ab) cb).mono ?_)
  rintro e_ ct ⟨K, G, P, L, H, Q, N, I, S, O, J, T, U, rfl, au, av, aw, ax, bt⟩
  refine ⟨_, rfl, ?_⟩
  exact W_nil (oE (.agg #[.slice K d.Routes.length G, .slice L d.Enabled.length H, .slice N d.Raised.length I, .slice O d.Cpus.length J]) (P ++ (Q ++ (S ++ (T ++ U)))) ⟨K, G, P, L, H, Q, N, I, S, O, J, T, U, rfl, rfl, au, av, aw, ax⟩ (Mem.callMid ab (bt.permF (by simp))))
 intro ah an
 intro v0_ hb0_
 obtain ⟨rfl, _⟩ := hb0_
 intro v2_ hb2_
 obtain ⟨K, G, P, L, H, Q, N, I, S, O, J, T, U, rfl, hs2_, au, av, aw, ax⟩ := hb2_
 intro a5 b0
 have F : Mem [] w a5 [[(u, .cells ⟨[.slice n b.Routes.length g, .slice o b.Enabled.length k, .slice q b.Raised.length l, .slice t b.Cpus.length m]⟩ 26 (0, 0))], ay, az, a0, a3, a4, [(V, .cells ⟨[.slice B c.Routes.length x, .slice C c.Enabled.length y, .slice D c.Raised.length z, .slice E c.Cpus.length A]⟩ 32 (0, 0))], (ah 2)] := b0
 rw [hs2_] at F
 replace F : Mem [] w a5 [[(u, .cells ⟨[.slice n b.Routes.length g, .slice o b.Enabled.length k, .slice q b.Raised.length l, .slice t b.Cpus.length m]⟩ 26 (0, 0))], ay, az, a0, a3, a4, [(V, .cells ⟨[.slice B c.Routes.length x, .slice C c.Enabled.length y, .slice D c.Raised.length z, .slice E c.Cpus.length A]⟩ 32 (0, 0))], P, Q, S, T, U] := F.permF (by simp)
 obtain ⟨ch, cc, hm⟩ := gx_bind hm
 refine wC 16 #[.agg #[.slice B c.Routes.length x, .slice C c.Enabled.length y, .slice D c.Raised.length z, .slice E c.Cpus.length A], .agg #[.slice K d.Routes.length G, .slice L d.Enabled.length H, .slice N d.Raised.length I, .slice O d.Cpus.length J]] ((c_l_eqMachine a5 c B x (bh.rd F 1 (by kernel_rfl)) C y (bi.rd F 2 (by kernel_rfl)) D z (bj.rd F 3 (by kernel_rfl)) E A (bk.rd F 4 (by kernel_rfl) 5 (by kernel_rfl)) d K G (au.rd F 7 (by kernel_rfl)) L H (av.rd F 8 (by kernel_rfl)) N I (aw.rd F 9 (by kernel_rfl)) O J (ax.rd F 10 (by kernel_rfl) 11 (by kernel_rfl)) cc).mono ?_)
 rintro e_ a6 ⟨rfl, bu⟩
 have bc := F.call0 bu
 refine ⟨_, rfl, ?_⟩
 refine wR 1 [(39, .bool (!ch))] a6 (W_nil (N_then ?_))
 rcases gx_bif hm with ⟨aq, hm⟩ | ⟨aq, hm⟩
 ·refine gT aq (G_seq (G_region (wR 1 [(2, .bool false)] a6 (W_nil (N_then (G_ret (N_then_ret ?_)))))))
  obtain rfl := Option.some.inj hm
  exact N_ret [.bool false] (rC RVs_nil) (⟨rfl, bc.pk []⟩)
 refine gF aq (G_skip (N_then (G_seq (G_region (wR 1 [(2, .bool true)] a6 (W_nil (N_then (G_ret ?_))))))))
 obtain rfl := Option.some.inj hm
 exact N_ret [.bool true] (rC RVs_nil) (⟨rfl, bc.pk []⟩)
theorem c_s_PendingOn (w : World) (a : Machine) (m : Option Addr) (j : Nat) (Q : rdS encRoute w a.Routes m j) (n : Option Addr) (k : Nat) (R : rdS Gx.encB w a.Enabled n k) (o : Option Addr) (l : Nat) (S : rdS Gx.encB w a.Raised o l) (d : Option Addr) (f : Nat) (F : rdD deepInterface w a.Cpus d f) (c : Int) {r : (List Int) × Bool} (hm : M.s_PendingOn a c = some r) :
  Calls Tryz.prog 25 #[.agg #[.slice m a.Routes.length j, .slice n a.Enabled.length k, .slice o a.Raised.length l, .slice d a.Cpus.length f], iv c] w fun e w' => ∃ (I : Option Addr) (D : Nat) (K : Seg), e = .returned (.tuple #[.slice I r.1.length D, .bool r.2]) ∧ ownS Gx.encI r.1 I D K ∧ Mem [] w w' [K] := by
 unfold M.s_PendingOn at hm
 refine cE Tryz.func25 ?_
 have M0 := Mem.refl [] w
 refine G_seq (G_region (wN (.cells ⟨[.slice m a.Routes.length j, .slice n a.Enabled.length k, .slice o a.Raised.length l, .slice d a.Cpus.length f]⟩ 32 (0, 0)) M0 ?_))
 intro u v q
 refine wR 2 [(1, iv c), (2, pB u 0)] v (W_nil (N_then (G_seq (G_seq (G_region (wV (.agg #[.slice m a.Routes.length j, .slice n a.Enabled.length k, .slice o a.Raised.length l, .slice d a.Cpus.length f]) v (eL true 4 0 (q.blk 0 rfl)) (wR 1 [(1, iv c), (2, pB u 0), (6, .agg #[.slice m a.Routes.length j, .slice n a.Enabled.length k, .slice o a.Raised.length l, .slice d a.Cpus.length f]), (7, iv c)] v ?_)))))))
 obtain ⟨Y, V, hm⟩ := gx_bind hm
 refine wC 64 #[.agg #[.slice m a.Routes.length j, .slice n a.Enabled.length k, .slice o a.Raised.length l, .slice d a.Cpus.length f], iv c] ((c_s_l21Cpu v a m j (Q.mem0 q) n k (R.mem0 q) o l (S.mem0 q) d f (F.mem0 q) c V).mono ?_)
 rintro e_ h ⟨rfl, L⟩
 have g := q.call0 L
 refine ⟨_, rfl, ?_⟩
 refine wR 1 [(1, iv c), (2, pB u 0), (9, .bool (!Y))] h (W_nil (N_then ?_))
 rcases gx_bif hm with ⟨z, hm⟩ | ⟨z, hm⟩
 ·refine gT z (G_seq (G_region (wL (E := Gx.encI) ([] : List Int) 0 [] 3 g ?_)))
  intro B x Z ab T O
  refine wR 2 [(4, .slice B ([] : List Int).length x), (5, .bool false)] ab (W_nil (N_then (G_ret (N_then_ret ?_))))
  obtain rfl := Option.some.inj hm
  exact N_ret [.slice B ([] : List Int).length x, .bool false] (rC (rC RVs_nil)) (⟨B, x, Z, rfl, T, O.pk [1]⟩)
 refine gF z (G_skip (N_then (G_seq (G_region (wR 1 [(1, iv c), (11, pB u 3)] h (wV (.slice d a.Cpus.length f) h (eL false 1 3 (g.blk 0 rfl)) (wR 1 [(12, .slice d a.Cpus.length f), (13, iv c)] h ?_)))))))
 obtain ⟨i, X, hm⟩ := gx_bind hm
 obtain ⟨ad, H, A, G⟩ := id F
 obtain ⟨b, t⟩ := gxIdx_fst H X
 refine wV (elemP d (c.toNat * 4)) h (eI (A.mem0 g) (len_fst H) t) (wV (elemP d (c.toNat * 4 + 2)) h (eF 2 (c.toNat * 4) 2 (A.mem0 g) t) (wV (.agg #[.slice ((b 1).1) i.Queue.Slots.length ((b 1).2), .slice ((b 2).1) i.Queue.Waiting.length ((b 2).2)]) h (eE true 2 2 (c.toNat * 4 + 2) (A.mem0 g) t) ?_))
 obtain ⟨J, W, hm⟩ := gx_bind hm
 refine wC 75 #[.agg #[.slice ((b 1).1) i.Queue.Slots.length ((b 1).2), .slice ((b 2).1) i.Queue.Waiting.length ((b 2).2)]] ((c_s_l9Pending h (⟨i.Queue.Slots, i.Queue.Waiting⟩ : Queue) ((b 1).1) ((b 1).2) ((G.mem0 g).at_ t 1 ⟨Slot, encSlot, i.Queue.Slots, (b 1).1, (b 1).2⟩ (by kernel_rfl)) ((b 2).1) ((b 2).2) ((G.mem0 g).at_ t 2 ⟨Waiter, encWaiter, i.Queue.Waiting, (b 2).1, (b 2).2⟩ (by kernel_rfl)) W).mono ?_)
 rintro e_ ac ⟨C, y, aa, rfl, U, N⟩
 have P := g.call N
 refine ⟨_, rfl, ?_⟩
 refine wR 2 [(4, .slice C J.length y), (5, .bool true)] ac (W_nil (N_then (G_ret ?_)))
 obtain rfl := Option.some.inj hm
 exact N_ret [.slice C J.length y, .bool true] (rC (rC RVs_nil)) (⟨C, y, aa, rfl, U, P.pk [1]⟩)
end Go.Proofs.YtllhajkgkghhdaaGreat
