/- The walks, printed by program: whenever the model gives r, the call returns r. Part 5. -/
import Derived.Test.YtlfligjpmodefaaM
import Derived.Test.YtlfligjpmodefaaGxZ
import Derived.Test.YtlfligjpmodefaaProg
import Derived.Test.YtlfligjpmodefaaSh
import Derived.Test.YtlfligjpmodefaaC4
set_option linter.unusedVariables false
set_option maxRecDepth 100000
set_option maxHeartbeats 4000000
namespace Go.Proofs.Ytlfligjpmodefaa
open Go.Gx
theorem c_l_FnExactInflate (w : World) (l : List Int) (n : Option Addr) (m : Nat) (ae : rdS Gx.encI w l n m) (g : List Balloon) (i : Option Addr) (h : Nat) (O : rdD deepBalloon w g i h) (o : Int) {r : Bool} (hm : M.l_FnExactInflate l g o = some r) :
  Calls Try.prog 9 #[.slice n l.length m, .slice i g.length h, iv o] w fun e w' => e = .returned (.bool r) ∧ Mem [] w w' [] := by
 unfold M.l_FnExactInflate at hm
 refine cE Try.func9 ?_
 have M0 := Mem.refl [] w
 refine G_seq (G_region (wR 1 [(0, .slice n l.length m), (1, .slice i g.length h), (2, iv o)] w (W_nil (N_then (G_seq (G_seq (G_region (wR 3 [(0, .slice n l.length m), (1, .slice i g.length h), (2, iv o), (24, .bool (decide ((l.length : Int) > 1048576)))] w (W_nil (N_then ?_))))))))))
 rcases gx_bif hm with ⟨bh, hm⟩ | ⟨bh, hm⟩
 ·refine gT bh (G_seq (G_region (wR 1 [(6, .bool true)] w (W_nil (N_then (G_ret (N_then_ret ?_)))))))
  obtain rfl := Option.some.inj hm
  exact N_ret [.bool true] (rC RVs_nil) (⟨rfl, M0.pk []⟩)
 refine gF bh (G_skip (N_then (G_seq (G_region (wR 1 [(0, .slice n l.length m), (1, .slice i g.length h), (2, iv o), (7, iv 1048576)] w (W_nil (N_then (G_seq (G_region (wR 2 [(0, .slice n l.length m), (1, .slice i g.length h), (2, iv o), (7, iv 1048576), (25, .slice i g.length h), (26, iv 1048576)] w ?_))))))))))
 obtain ⟨c7, ev, hm⟩ := gx_bind hm
 refine wC 13 #[.slice i g.length h, iv 1048576] ((c_l_szBalloonS w g i h (O.mem0 M0) 1048576 ev).mono ?_)
 rintro e_ P ⟨rfl, dk⟩
 have ax := M0.call0 dk
 refine ⟨_, rfl, ?_⟩
 refine wR 1 [(0, .slice n l.length m), (1, .slice i g.length h), (2, iv o), (7, iv c7)] P (W_nil (N_then (G_seq (G_seq (G_region (wR 2 [(0, .slice n l.length m), (1, .slice i g.length h), (2, iv o), (29, .bool (decide (c7 < 0)))] P (W_nil (N_then ?_))))))))
 rcases gx_bif hm with ⟨bi, hm⟩ | ⟨bi, hm⟩
 ·refine gT bi (G_seq (G_region (wR 1 [(6, .bool true)] P (W_nil (N_then (G_ret (N_then_ret ?_)))))))
  obtain rfl := Option.some.inj hm
  exact N_ret [.bool true] (rC RVs_nil) (⟨rfl, ax.pk []⟩)
 refine gF bi (G_skip (N_then (G_seq (G_region (wR 1 [(0, .slice n l.length m), (1, .slice i g.length h), (2, iv o), (31, .slice n l.length m)] P ?_)))))
 obtain ⟨ak, ew, hm⟩ := gx_bind hm
 refine wC 15 #[.slice n l.length m] ((c_l_toIntS P l n m (ae.mem0 ax) ew).mono ?_)
 rintro e_ dg ⟨ah, ab, f8, rfl, ej, dl⟩
 have cr := ax.call dl
 refine ⟨_, rfl, ?_⟩
 refine wR 1 [(0, .slice n l.length m), (1, .slice i g.length h), (2, iv o), (32, .slice ah ak.length ab), (33, .slice i g.length h)] dg ?_
 obtain ⟨ca, ex, hm⟩ := gx_bind hm
 refine wC 16 #[.slice i g.length h] ((c_l_toBalloonS dg g i h (O.mem0 cr) ex).mono ?_)
 rintro e_ dh ⟨b8, bf, ga, gb, rfl, ek, dm⟩
 have ay := cr.call dm
 refine ⟨_, rfl, ?_⟩
 refine wR 1 [(0, .slice n l.length m), (1, .slice i g.length h), (2, iv o), (32, .slice ah ak.length ab), (34, .slice b8 ca.length bf), (35, iv o)] dh ?_
 obtain ⟨b, ey, hm⟩ := gx_bind hm
 refine wC 34 #[.slice ah ak.length ab, .slice b8 ca.length bf, iv o] ((c_s_Inflate dh ak ah ab (ej.rd ay 0 (by kernel_rfl)) ca b8 bf (ek.rd ay 1 (by kernel_rfl) 2 (by kernel_rfl)) o ey).mono ?_)
 rintro e_ cg ⟨x, v, da, u, t, db, dc, rfl, b2, b3, dn⟩
 have cs := ay.call dn
 refine ⟨_, rfl, ?_⟩
 refine wR 7 [(0, .slice n l.length m), (1, .slice i g.length h), (2, iv o), (8, .slice x b.1.length v), (9, .slice u b.2.1.length t), (10, .bool b.2.2)] cg (W_nil (N_then (G_seq (G_region (wR 1 [(0, .slice n l.length m), (1, .slice i g.length h), (2, iv o), (8, .slice x b.1.length v), (9, .slice u b.2.1.length t), (10, .bool b.2.2), (40, .slice n l.length m)] cg ?_)))))
 obtain ⟨D, ez, hm⟩ := gx_bind hm
 refine wC 15 #[.slice n l.length m] ((c_l_toIntS cg l n m (ae.mem0 cs) ez).mono ?_)
 rintro e_ ch ⟨B, z, dd, rfl, b4, dp⟩
 have ct := cs.call dp
 refine ⟨_, rfl, ?_⟩
 refine wR 1 [(0, .slice n l.length m), (1, .slice i g.length h), (2, iv o), (8, .slice x b.1.length v), (9, .slice u b.2.1.length t), (10, .bool b.2.2), (11, .slice B D.length z)] ch (W_nil (N_then (G_seq (G_region (wR 1 [(0, .slice n l.length m), (1, .slice i g.length h), (2, iv o), (8, .slice x b.1.length v), (9, .slice u b.2.1.length t), (10, .bool b.2.2), (11, .slice B D.length z), (42, .slice i g.length h)] ch ?_)))))
 obtain ⟨E, e0, hm⟩ := gx_bind hm
 refine wC 16 #[.slice i g.length h] ((c_l_toBalloonS ch g i h (O.mem0 ct) e0).mono ?_)
 rintro e_ ci ⟨C, A, de, df, rfl, b5, dq⟩
 have az := ct.call dq
 refine ⟨_, rfl, ?_⟩
 refine wR 1 [(0, .slice n l.length m), (1, .slice i g.length h), (2, iv o), (8, .slice x b.1.length v), (9, .slice u b.2.1.length t), (10, .bool b.2.2), (11, .slice B D.length z), (12, .slice C E.length A)] ci (W_nil (N_then (G_seq (G_region (wR 3 [(0, .slice n l.length m), (1, .slice i g.length h), (2, iv o), (8, .slice x b.1.length v), (9, .slice u b.2.1.length t), (10, .bool b.2.2), (11, .slice B D.length z), (12, .slice C E.length A), (45, .slice B D.length z), (46, .slice C E.length A), (47, iv o)] ci ?_)))))
 obtain ⟨c, e1, hm⟩ := gx_bind hm
 refine wC 35 #[.slice B D.length z, .slice C E.length A, iv o] ((c_i_Inflate ci D B z (b4.rd az 6 (by kernel_rfl)) E C A (b5.rd az 7 (by kernel_rfl) 8 (by kernel_rfl)) o e1).mono ?_)
 rintro e_ cj ⟨k, j, cd, f, d, ce, cf, rfl, b6, b7, dr⟩
 have a0 := az.call dr
 refine ⟨_, rfl, ?_⟩
 refine wR 7 [(0, .slice n l.length m), (1, .slice i g.length h), (2, iv o), (8, .slice x b.1.length v), (9, .slice u b.2.1.length t), (10, .bool b.2.2), (11, .slice B D.length z), (12, .slice C E.length A), (13, .slice k c.1.length j), (14, .slice f c.2.1.length d), (15, .bool c.2.2)] cj (W_nil (N_then (G_seq (G_seq ?_))))
 obtain ⟨fn, el, eg⟩ := gx_bind hm
 refine G_meet (fun a w' => Mem [] w w' [da, db, dc, dd, de, df, cd, ce, cf] ∧ Sat Try.f9.ntmps [(0, .slice n l.length m), (1, .slice i g.length h), (2, iv o), (8, .slice x b.1.length v), (9, .slice u b.2.1.length t), (10, .bool b.2.2), (11, .slice B D.length z), (12, .slice C E.length A), (13, .slice k c.1.length j), (14, .slice f c.2.1.length d), (15, .bool c.2.2), (66, .bool fn)] a) ?_ ?_
 ·have hm := el
  refine G_region (wR 2 [(0, .slice n l.length m), (1, .slice i g.length h), (2, iv o), (8, .slice x b.1.length v), (9, .slice u b.2.1.length t), (10, .bool b.2.2), (11, .slice B D.length z), (12, .slice C E.length A), (13, .slice k c.1.length j), (14, .slice f c.2.1.length d), (15, .bool c.2.2), (52, .slice k c.1.length j), (53, .slice x b.1.length v)] cj ?_)
  obtain ⟨fq, e2, hm⟩ := gx_bind hm
  refine wC 18 #[.slice k c.1.length j, .slice x b.1.length v] ((c_l_eqIntS cj c.1 k j (b6.rd a0 9 (by kernel_rfl)) b.1 x v (b2.rd a0 3 (by kernel_rfl)) e2).mono ?_)
  rintro e_ ao ⟨rfl, ds⟩
  have U := a0.call0 ds
  refine ⟨_, rfl, ?_⟩
  refine wR 2 [(0, .slice n l.length m), (1, .slice i g.length h), (2, iv o), (8, .slice x b.1.length v), (9, .slice u b.2.1.length t), (10, .bool b.2.2), (11, .slice B D.length z), (12, .slice C E.length A), (13, .slice k c.1.length j), (14, .slice f c.2.1.length d), (15, .bool c.2.2), (56, .bool (!fq))] ao ?_
  rcases gx_bif hm with ⟨bj, hm⟩ | ⟨bj, hm⟩
  ·refine wK 56 true bj (wR 10 [(0, .slice n l.length m), (1, .slice i g.length h), (2, iv o), (8, .slice x b.1.length v), (9, .slice u b.2.1.length t), (10, .bool b.2.2), (11, .slice B D.length z), (12, .slice C E.length A), (13, .slice k c.1.length j), (14, .slice f c.2.1.length d), (15, .bool c.2.2), (66, .bool true)] ao (W_nil ?_))
   obtain rfl := Option.some.inj hm
   exact N_meet fun a ha => ⟨U.pk [3, 4, 5, 6, 7, 8, 9, 10, 11], ha.s⟩
  refine wK 56 false bj (wR 2 [(0, .slice n l.length m), (1, .slice i g.length h), (2, iv o), (8, .slice x b.1.length v), (9, .slice u b.2.1.length t), (10, .bool b.2.2), (11, .slice B D.length z), (12, .slice C E.length A), (13, .slice k c.1.length j), (14, .slice f c.2.1.length d), (15, .bool c.2.2), (56, .bool false), (57, .slice f c.2.1.length d), (58, .slice u b.2.1.length t)] ao ?_)
  obtain ⟨fr, e3, hm⟩ := gx_bind hm
  refine wC 19 #[.slice f c.2.1.length d, .slice u b.2.1.length t] ((c_l_eqBalloonS ao c.2.1 f d (b7.rd U 10 (by kernel_rfl) 11 (by kernel_rfl)) b.2.1 u t (b3.rd U 4 (by kernel_rfl) 5 (by kernel_rfl)) e3).mono ?_)
  rintro e_ ck ⟨rfl, dt⟩
  have cu := U.call0 dt
  refine ⟨_, rfl, ?_⟩
  refine wR 3 [(0, .slice n l.length m), (1, .slice i g.length h), (2, iv o), (8, .slice x b.1.length v), (9, .slice u b.2.1.length t), (10, .bool b.2.2), (11, .slice B D.length z), (12, .slice C E.length A), (13, .slice k c.1.length j), (14, .slice f c.2.1.length d), (15, .bool c.2.2), (62, .bool (!fr))] ck ?_
  rcases gx_bif hm with ⟨bk, hm⟩ | ⟨bk, hm⟩
  ·refine wK 62 true bk (wR 4 [(0, .slice n l.length m), (1, .slice i g.length h), (2, iv o), (8, .slice x b.1.length v), (9, .slice u b.2.1.length t), (10, .bool b.2.2), (11, .slice B D.length z), (12, .slice C E.length A), (13, .slice k c.1.length j), (14, .slice f c.2.1.length d), (15, .bool c.2.2), (66, .bool true)] ck (W_nil ?_))
   obtain rfl := Option.some.inj hm
   exact N_meet fun a ha => ⟨cu.pk [3, 4, 5, 6, 7, 8, 9, 10, 11], ha.s⟩
  refine wK 62 false bk (wR 4 [(0, .slice n l.length m), (1, .slice i g.length h), (2, iv o), (8, .slice x b.1.length v), (9, .slice u b.2.1.length t), (10, .bool b.2.2), (11, .slice B D.length z), (12, .slice C E.length A), (13, .slice k c.1.length j), (14, .slice f c.2.1.length d), (15, .bool c.2.2), (66, .bool (!(c.2.2 == b.2.2)))] ck (W_nil ?_))
  obtain rfl := Option.some.inj hm
  exact N_meet fun a ha => ⟨cu.pk [3, 4, 5, 6, 7, 8, 9, 10, 11], ha.s⟩
 intro f3 cl ⟨a3, ed⟩
 refine N_use ed ?_
 have hm := eg
 refine N_then ?_
 rcases gx_bif hm with ⟨bl, hm⟩ | ⟨bl, hm⟩
 ·refine gT bl (G_seq (G_region (wR 1 [(6, .bool false)] cl (W_nil (N_then (G_ret (N_then_ret ?_)))))))
  obtain rfl := Option.some.inj hm
  exact N_ret [.bool false] (rC RVs_nil) (⟨rfl, a3.pk []⟩)
 refine gF bl (G_skip (N_then (G_seq (G_seq (G_region (wR 2 [(0, .slice n l.length m), (1, .slice i g.length h), (2, iv o), (8, .slice x b.1.length v), (9, .slice u b.2.1.length t), (10, .bool b.2.2), (11, .slice B D.length z), (12, .slice C E.length A), (13, .slice k c.1.length j), (14, .slice f c.2.1.length d), (15, .bool c.2.2), (67, .slice B D.length z), (68, .slice n l.length m)] cl ?_))))))
 obtain ⟨c8, e4, hm⟩ := gx_bind hm
 refine wC 15 #[.slice n l.length m] ((c_l_toIntS cl l n m (ae.mem0 a3) e4).mono ?_)
 rintro e_ f1 ⟨c5, cz, gc, rfl, em, du⟩
 have a4 := a3.call du
 refine ⟨_, rfl, ?_⟩
 obtain ⟨fs, e5, hm⟩ := gx_bind hm
 refine wC 18 #[.slice B D.length z, .slice c5 c8.length cz] ((c_l_eqIntS f1 D B z (b4.rd a4 3 (by kernel_rfl)) c8 c5 cz (em.rd a4 9 (by kernel_rfl)) e5).mono ?_)
 rintro e_ ap ⟨rfl, dv⟩
 have a5 := a4.call0 dv
 refine ⟨_, rfl, ?_⟩
 refine wR 1 [(0, .slice n l.length m), (1, .slice i g.length h), (2, iv o), (8, .slice x b.1.length v), (9, .slice u b.2.1.length t), (10, .bool b.2.2), (11, .slice B D.length z), (12, .slice C E.length A), (13, .slice k c.1.length j), (14, .slice f c.2.1.length d), (15, .bool c.2.2), (71, .bool (!fs))] ap (W_nil (N_then ?_))
 rcases gx_bif hm with ⟨bm, hm⟩ | ⟨bm, hm⟩
 ·refine gT bm (G_seq (G_region (wR 1 [(6, .bool false)] ap (W_nil (N_then (G_ret (N_then_ret ?_)))))))
  obtain rfl := Option.some.inj hm
  exact N_ret [.bool false] (rC RVs_nil) (⟨rfl, a5.pk []⟩)
 refine gF bm (G_skip (N_then (G_seq (G_seq (G_region (wR 2 [(0, .slice n l.length m), (1, .slice i g.length h), (2, iv o), (8, .slice x b.1.length v), (9, .slice u b.2.1.length t), (10, .bool b.2.2), (11, .slice B D.length z), (12, .slice C E.length A), (13, .slice k c.1.length j), (14, .slice f c.2.1.length d), (15, .bool c.2.2), (72, .slice C E.length A), (73, .slice i g.length h)] ap ?_))))))
 obtain ⟨c9, e6, hm⟩ := gx_bind hm
 refine wC 16 #[.slice i g.length h] ((c_l_toBalloonS ap g i h (O.mem0 a5) e6).mono ?_)
 rintro e_ f2 ⟨c6, c0, gd, ge, rfl, en, dw⟩
 have a6 := a5.call dw
 refine ⟨_, rfl, ?_⟩
 obtain ⟨ft, e7, hm⟩ := gx_bind hm
 refine wC 19 #[.slice C E.length A, .slice c6 c9.length c0] ((c_l_eqBalloonS f2 E C A (b5.rd a6 4 (by kernel_rfl) 5 (by kernel_rfl)) c9 c6 c0 (en.rd a6 10 (by kernel_rfl) 11 (by kernel_rfl)) e7).mono ?_)
 rintro e_ Q ⟨rfl, dx⟩
 have V := a6.call0 dx
 refine ⟨_, rfl, ?_⟩
 refine wR 1 [(0, .slice n l.length m), (1, .slice i g.length h), (2, iv o), (8, .slice x b.1.length v), (9, .slice u b.2.1.length t), (10, .bool b.2.2), (11, .slice B D.length z), (12, .slice C E.length A), (13, .slice k c.1.length j), (14, .slice f c.2.1.length d), (15, .bool c.2.2), (76, .bool (!ft))] Q (W_nil (N_then ?_))
 rcases gx_bif hm with ⟨bn, hm⟩ | ⟨bn, hm⟩
 ·refine gT bn (G_seq (G_region (wR 1 [(6, .bool false)] Q (W_nil (N_then (G_ret (N_then_ret ?_)))))))
  obtain rfl := Option.some.inj hm
  exact N_ret [.bool false] (rC RVs_nil) (⟨rfl, V.pk []⟩)
 refine gF bn (G_skip (N_then (G_seq (G_region (wR 1 [(0, .slice n l.length m), (1, .slice i g.length h), (2, iv o), (8, .slice x b.1.length v), (9, .slice u b.2.1.length t), (10, .bool b.2.2), (11, .slice B D.length z), (12, .slice C E.length A), (13, .slice k c.1.length j), (14, .slice f c.2.1.length d), (15, .bool c.2.2), (16, iv 1)] Q (W_nil (N_then (G_seq (G_region (wR 2 [(0, .slice n l.length m), (1, .slice i g.length h), (2, iv o), (8, .slice x b.1.length v), (9, .slice u b.2.1.length t), (10, .bool b.2.2), (12, .slice C E.length A), (13, .slice k c.1.length j), (14, .slice f c.2.1.length d), (15, .bool c.2.2), (16, iv 1), (77, .slice B D.length z), (78, iv 1)] Q ?_))))))))))
 obtain ⟨L, e8, hm⟩ := gx_bind hm
 refine wC 24 #[.slice B D.length z, iv 1] ((c_l_markIntS Q D B z dd b4 1 (V.hasPick [3]) (V.nodupPick [3] (by kernel_rfl)) e8).mono ?_)
 rintro e_ cm ⟨gf, rfl, f6, c1, dy⟩
 have a7 := V.callF' [3] [0, 1, 2, 4, 5, 6, 7, 8, 9, 10, 11] (by kernel_rfl) dy
 refine ⟨_, rfl, ?_⟩
 refine wX 77 (.slice B D.length z) (.slice B L.2.length z) (by first | rw [c1] | rw [c1]) (wR 1 [(0, .slice n l.length m), (1, .slice i g.length h), (2, iv o), (8, .slice x b.1.length v), (9, .slice u b.2.1.length t), (10, .bool b.2.2), (12, .slice C E.length A), (13, .slice k c.1.length j), (14, .slice f c.2.1.length d), (15, .bool c.2.2), (16, iv L.1)] cm (W_nil (N_then (G_seq (G_region (wR 2 [(0, .slice n l.length m), (1, .slice i g.length h), (2, iv o), (8, .slice x b.1.length v), (9, .slice u b.2.1.length t), (10, .bool b.2.2), (13, .slice k c.1.length j), (14, .slice f c.2.1.length d), (15, .bool c.2.2), (16, iv L.1), (80, .slice C E.length A), (81, iv L.1)] cm ?_))))))
 obtain ⟨cb, e9, hm⟩ := gx_bind hm
 refine wC 25 #[.slice C E.length A, iv L.1] ((c_l_markBalloonS cm E C A de df b5 L.1 (a7.hasPick [3, 4]) (a7.nodupPick [3, 4] (by kernel_rfl)) e9).mono ?_)
 rintro e_ R ⟨gg, gh, rfl, f7, c2, dz⟩
 have W := a7.callF' [3, 4] [0, 1, 2, 5, 6, 7, 8, 9, 10, 11] (by kernel_rfl) dz
 refine ⟨_, rfl, ?_⟩
 refine wX 80 (.slice C E.length A) (.slice C cb.2.length A) (by first | rw [c2] | rw [c2]) (wR 1 [(0, .slice n l.length m), (1, .slice i g.length h), (2, iv o), (8, .slice x b.1.length v), (9, .slice u b.2.1.length t), (10, .bool b.2.2), (13, .slice k c.1.length j), (14, .slice f c.2.1.length d), (15, .bool c.2.2), (16, iv cb.1)] R (W_nil (N_then (G_seq (G_seq ?_)))))
 obtain ⟨fo, eo, eh⟩ := gx_bind hm
 refine G_meet (fun a w' => Mem [] w w' [da, db, dc, cd, ce, cf] ∧ Sat Try.f9.ntmps [(0, .slice n l.length m), (1, .slice i g.length h), (2, iv o), (8, .slice x b.1.length v), (9, .slice u b.2.1.length t), (10, .bool b.2.2), (13, .slice k c.1.length j), (14, .slice f c.2.1.length d), (101, .bool fo)] a) ?_ ?_
 ·have hm := eo
  refine G_region (wR 3 [(0, .slice n l.length m), (1, .slice i g.length h), (2, iv o), (8, .slice x b.1.length v), (9, .slice u b.2.1.length t), (10, .bool b.2.2), (13, .slice k c.1.length j), (14, .slice f c.2.1.length d), (15, .bool c.2.2), (85, .bool (decide (cb.1 < 0)))] R ?_)
  rcases gx_bif hm with ⟨bo, hm⟩ | ⟨bo, hm⟩
  ·refine wK 85 true bo (wR 16 [(0, .slice n l.length m), (1, .slice i g.length h), (2, iv o), (8, .slice x b.1.length v), (9, .slice u b.2.1.length t), (10, .bool b.2.2), (13, .slice k c.1.length j), (14, .slice f c.2.1.length d), (101, .bool true)] R (W_nil ?_))
   obtain rfl := Option.some.inj hm
   exact N_meet fun a ha => ⟨W.pk [0, 1, 2, 3, 4, 5], ha.s⟩
  refine wK 85 false bo (wR 2 [(0, .slice n l.length m), (1, .slice i g.length h), (2, iv o), (8, .slice x b.1.length v), (9, .slice u b.2.1.length t), (10, .bool b.2.2), (13, .slice k c.1.length j), (14, .slice f c.2.1.length d), (15, .bool c.2.2), (85, .bool false), (86, .slice k c.1.length j), (87, .slice x b.1.length v)] R ?_)
  obtain ⟨fu, fa, hm⟩ := gx_bind hm
  refine wC 18 #[.slice k c.1.length j, .slice x b.1.length v] ((c_l_eqIntS R c.1 k j (b6.rd W 3 (by kernel_rfl)) b.1 x v (b2.rd W 0 (by kernel_rfl)) fa).mono ?_)
  rintro e_ aq ⟨rfl, d0⟩
  have X := W.call0 d0
  refine ⟨_, rfl, ?_⟩
  refine wR 3 [(0, .slice n l.length m), (1, .slice i g.length h), (2, iv o), (8, .slice x b.1.length v), (9, .slice u b.2.1.length t), (10, .bool b.2.2), (13, .slice k c.1.length j), (14, .slice f c.2.1.length d), (15, .bool c.2.2), (91, .bool (!fu))] aq ?_
  rcases gx_bif hm with ⟨bp, hm⟩ | ⟨bp, hm⟩
  ·refine wK 91 true bp (wR 10 [(0, .slice n l.length m), (1, .slice i g.length h), (2, iv o), (8, .slice x b.1.length v), (9, .slice u b.2.1.length t), (10, .bool b.2.2), (13, .slice k c.1.length j), (14, .slice f c.2.1.length d), (101, .bool true)] aq (W_nil ?_))
   obtain rfl := Option.some.inj hm
   exact N_meet fun a ha => ⟨X.pk [0, 1, 2, 3, 4, 5], ha.s⟩
  refine wK 91 false bp (wR 2 [(0, .slice n l.length m), (1, .slice i g.length h), (2, iv o), (8, .slice x b.1.length v), (9, .slice u b.2.1.length t), (10, .bool b.2.2), (13, .slice k c.1.length j), (14, .slice f c.2.1.length d), (15, .bool c.2.2), (91, .bool false), (92, .slice f c.2.1.length d), (93, .slice u b.2.1.length t)] aq ?_)
  obtain ⟨fv, fb, hm⟩ := gx_bind hm
  refine wC 19 #[.slice f c.2.1.length d, .slice u b.2.1.length t] ((c_l_eqBalloonS aq c.2.1 f d (b7.rd X 4 (by kernel_rfl) 5 (by kernel_rfl)) b.2.1 u t (b3.rd X 1 (by kernel_rfl) 2 (by kernel_rfl)) fb).mono ?_)
  rintro e_ cn ⟨rfl, d1⟩
  have cv := X.call0 d1
  refine ⟨_, rfl, ?_⟩
  refine wR 3 [(0, .slice n l.length m), (1, .slice i g.length h), (2, iv o), (8, .slice x b.1.length v), (9, .slice u b.2.1.length t), (10, .bool b.2.2), (13, .slice k c.1.length j), (14, .slice f c.2.1.length d), (15, .bool c.2.2), (97, .bool (!fv))] cn ?_
  rcases gx_bif hm with ⟨bq, hm⟩ | ⟨bq, hm⟩
  ·refine wK 97 true bq (wR 4 [(0, .slice n l.length m), (1, .slice i g.length h), (2, iv o), (8, .slice x b.1.length v), (9, .slice u b.2.1.length t), (10, .bool b.2.2), (13, .slice k c.1.length j), (14, .slice f c.2.1.length d), (101, .bool true)] cn (W_nil ?_))
   obtain rfl := Option.some.inj hm
   exact N_meet fun a ha => ⟨cv.pk [0, 1, 2, 3, 4, 5], ha.s⟩
  refine wK 97 false bq (wR 4 [(0, .slice n l.length m), (1, .slice i g.length h), (2, iv o), (8, .slice x b.1.length v), (9, .slice u b.2.1.length t), (10, .bool b.2.2), (13, .slice k c.1.length j), (14, .slice f c.2.1.length d), (101, .bool (!(c.2.2 == b.2.2)))] cn (W_nil ?_))
  obtain rfl := Option.some.inj hm
  exact N_meet fun a ha => ⟨cv.pk [0, 1, 2, 3, 4, 5], ha.s⟩
 intro f4 ar ⟨Y, ee⟩
 refine N_use ee ?_
 have hm := eh
 refine N_then ?_
 rcases gx_bif hm with ⟨br, hm⟩ | ⟨br, hm⟩
 ·refine gT br (G_seq (G_region (wR 1 [(6, .bool false)] ar (W_nil (N_then (G_ret (N_then_ret ?_)))))))
  obtain rfl := Option.some.inj hm
  exact N_ret [.bool false] (rC RVs_nil) (⟨rfl, Y.pk []⟩)
 refine gF br (G_skip (N_then (G_seq (G_region (wR 1 [(0, .slice n l.length m), (1, .slice i g.length h), (2, iv o), (8, .slice x b.1.length v), (9, .slice u b.2.1.length t), (10, .bool b.2.2), (13, .slice k c.1.length j), (14, .slice f c.2.1.length d), (17, iv 1)] ar (W_nil (N_then (G_seq (G_region (wR 2 [(0, .slice n l.length m), (1, .slice i g.length h), (2, iv o), (8, .slice x b.1.length v), (9, .slice u b.2.1.length t), (10, .bool b.2.2), (13, .slice k c.1.length j), (14, .slice f c.2.1.length d), (17, iv 1), (102, .slice k c.1.length j), (103, iv 1)] ar ?_))))))))))
 obtain ⟨y, fc, hm⟩ := gx_bind hm
 refine wC 24 #[.slice k c.1.length j, iv 1] ((c_l_markIntS ar c.1 k j cd b6 1 (Y.hasPick [3]) (Y.nodupPick [3] (by kernel_rfl)) fc).mono ?_)
 rintro e_ co ⟨fy, rfl, c3, af, d2⟩
 have a8 := Y.callF' [3] [0, 1, 2, 4, 5] (by kernel_rfl) d2
 refine ⟨_, rfl, ?_⟩
 refine wX 13 (.slice k c.1.length j) (.slice k y.2.length j) (by first | rw [af] | rw [af]) (wX 102 (.slice k c.1.length j) (.slice k y.2.length j) (by first | rw [af] | rw [af]) (wR 1 [(0, .slice n l.length m), (1, .slice i g.length h), (2, iv o), (8, .slice x b.1.length v), (9, .slice u b.2.1.length t), (10, .bool b.2.2), (13, .slice k y.2.length j), (14, .slice f c.2.1.length d), (17, iv y.1)] co (W_nil (N_then (G_seq (G_region (wR 2 [(0, .slice n l.length m), (1, .slice i g.length h), (2, iv o), (8, .slice x b.1.length v), (9, .slice u b.2.1.length t), (10, .bool b.2.2), (13, .slice k y.2.length j), (14, .slice f c.2.1.length d), (17, iv y.1), (105, .slice f c.2.1.length d), (106, iv y.1)] co ?_)))))))
 obtain ⟨q, fd, hm⟩ := gx_bind hm
 refine wC 25 #[.slice f c.2.1.length d, iv y.1] ((c_l_markBalloonS co c.2.1 f d ce cf b7 y.1 (a8.hasPick [3, 4]) (a8.nodupPick [3, 4] (by kernel_rfl)) fd).mono ?_)
 rintro e_ au ⟨fz, f0, rfl, c4, ag, d3⟩
 have cw := a8.callF' [3, 4] [0, 1, 2, 5] (by kernel_rfl) d3
 refine ⟨_, rfl, ?_⟩
 refine wX 14 (.slice f c.2.1.length d) (.slice f q.2.length d) (by first | rw [ag] | rw [ag]) (wX 105 (.slice f c.2.1.length d) (.slice f q.2.length d) (by first | rw [ag] | rw [ag]) (wR 1 [(0, .slice n l.length m), (1, .slice i g.length h), (2, iv o), (8, .slice x b.1.length v), (9, .slice u b.2.1.length t), (10, .bool b.2.2), (13, .slice k y.2.length j), (14, .slice f q.2.length d), (17, iv q.1)] au (W_nil (N_then (G_seq (G_region (wR 1 [(0, .slice n l.length m), (1, .slice i g.length h), (2, iv o), (8, .slice x b.1.length v), (9, .slice u b.2.1.length t), (10, .bool b.2.2), (13, .slice k y.2.length j), (14, .slice f q.2.length d), (17, iv q.1), (18, iv 1)] au (W_nil (N_then (G_seq (G_region (wR 2 [(0, .slice n l.length m), (1, .slice i g.length h), (2, iv o), (8, .slice x b.1.length v), (9, .slice u b.2.1.length t), (10, .bool b.2.2), (13, .slice k y.2.length j), (14, .slice f q.2.length d), (17, iv q.1), (18, iv 1), (108, .slice k y.2.length j), (109, iv 1)] au ?_))))))))))))
 obtain ⟨G, fe, hm⟩ := gx_bind hm
 refine wC 29 #[.slice k y.2.length j, iv 1] ((c_l_heldIntS au y.2 k j (c3.rd cw 3 (by kernel_rfl)) 1 fe).mono ?_)
 rintro e_ S ⟨rfl, d4⟩
 have a9 := cw.call0 d4
 refine ⟨_, rfl, ?_⟩
 refine wR 1 [(0, .slice n l.length m), (1, .slice i g.length h), (2, iv o), (8, .slice x b.1.length v), (9, .slice u b.2.1.length t), (10, .bool b.2.2), (13, .slice k y.2.length j), (14, .slice f q.2.length d), (17, iv q.1), (18, iv G)] S (W_nil (N_then (G_seq (G_seq (G_region (wR 2 [(0, .slice n l.length m), (1, .slice i g.length h), (2, iv o), (8, .slice x b.1.length v), (9, .slice u b.2.1.length t), (10, .bool b.2.2), (13, .slice k y.2.length j), (14, .slice f q.2.length d), (17, iv q.1), (18, iv G), (112, .bool (decide (G < 0)))] S (W_nil (N_then ?_))))))))
 rcases gx_bif hm with ⟨bs, hm⟩ | ⟨bs, hm⟩
 ·refine gT bs (G_seq (G_region (wR 1 [(6, .bool false)] S (W_nil (N_then (G_ret (N_then_ret ?_)))))))
  obtain rfl := Option.some.inj hm
  exact N_ret [.bool false] (rC RVs_nil) (⟨rfl, a9.pk []⟩)
 refine gF bs (G_skip (N_then (G_seq (G_region (wR 2 [(0, .slice n l.length m), (1, .slice i g.length h), (2, iv o), (8, .slice x b.1.length v), (9, .slice u b.2.1.length t), (10, .bool b.2.2), (13, .slice k y.2.length j), (14, .slice f q.2.length d), (17, iv q.1), (18, iv G), (113, .slice f q.2.length d), (114, iv G)] S ?_)))))
 obtain ⟨al, ff, hm⟩ := gx_bind hm
 refine wC 26 #[.slice f q.2.length d, iv G] ((c_l_heldBalloonS S q.2 f d (c4.rd a9 4 (by kernel_rfl) 5 (by kernel_rfl)) G ff).mono ?_)
 rintro e_ I ⟨rfl, d5⟩
 have Z := a9.call0 d5
 refine ⟨_, rfl, ?_⟩
 refine wR 1 [(0, .slice n l.length m), (1, .slice i g.length h), (2, iv o), (8, .slice x b.1.length v), (9, .slice u b.2.1.length t), (10, .bool b.2.2), (13, .slice k y.2.length j), (14, .slice f q.2.length d), (17, iv q.1), (18, iv al)] I (W_nil (N_then (G_seq (G_seq (G_region (wR 2 [(0, .slice n l.length m), (1, .slice i g.length h), (2, iv o), (8, .slice x b.1.length v), (9, .slice u b.2.1.length t), (10, .bool b.2.2), (13, .slice k y.2.length j), (14, .slice f q.2.length d), (17, iv q.1), (18, iv al), (117, .bool (decide (al < 0)))] I (W_nil (N_then ?_))))))))
 rcases gx_bif hm with ⟨bt, hm⟩ | ⟨bt, hm⟩
 ·refine gT bt (G_seq (G_region (wR 1 [(6, .bool false)] I (W_nil (N_then (G_ret (N_then_ret ?_)))))))
  obtain rfl := Option.some.inj hm
  exact N_ret [.bool false] (rC RVs_nil) (⟨rfl, Z.pk []⟩)
 refine gF bt (G_skip (N_then (G_seq (G_seq (G_region (wR 3 [(0, .slice n l.length m), (1, .slice i g.length h), (2, iv o), (8, .slice x b.1.length v), (9, .slice u b.2.1.length t), (10, .bool b.2.2), (13, .slice k y.2.length j), (14, .slice f q.2.length d), (17, iv q.1), (120, .bool (al != q.1))] I (W_nil (N_then ?_))))))))
 rcases gx_bif hm with ⟨bu, hm⟩ | ⟨bu, hm⟩
 ·refine gT bu (G_seq (G_region (wR 1 [(6, .bool false)] I (W_nil (N_then (G_ret (N_then_ret ?_)))))))
  obtain rfl := Option.some.inj hm
  exact N_ret [.bool false] (rC RVs_nil) (⟨rfl, Z.pk []⟩)
 refine gF bu (G_skip (N_then (G_seq (G_region (wR 1 [(1, .slice i g.length h), (2, iv o), (8, .slice x b.1.length v), (9, .slice u b.2.1.length t), (10, .bool b.2.2), (13, .slice k y.2.length j), (14, .slice f q.2.length d), (17, iv q.1), (122, .slice n l.length m)] I ?_)))))
 obtain ⟨am, fg, hm⟩ := gx_bind hm
 refine wC 15 #[.slice n l.length m] ((c_l_toIntS I l n m (ae.mem0 Z) fg).mono ?_)
 rintro e_ di ⟨ai, ac, gi, rfl, ep, d6⟩
 have cx := Z.call d6
 refine ⟨_, rfl, ?_⟩
 refine wR 1 [(2, iv o), (8, .slice x b.1.length v), (9, .slice u b.2.1.length t), (10, .bool b.2.2), (13, .slice k y.2.length j), (14, .slice f q.2.length d), (17, iv q.1), (123, .slice ai am.length ac), (124, .slice i g.length h)] di ?_
 obtain ⟨cc, fh, hm⟩ := gx_bind hm
 refine wC 16 #[.slice i g.length h] ((c_l_toBalloonS di g i h (O.mem0 cx) fh).mono ?_)
 rintro e_ dj ⟨b9, bg, gj, gk, rfl, er, d7⟩
 have ba := cx.call d7
 refine ⟨_, rfl, ?_⟩
 refine wR 1 [(8, .slice x b.1.length v), (9, .slice u b.2.1.length t), (10, .bool b.2.2), (13, .slice k y.2.length j), (14, .slice f q.2.length d), (17, iv q.1), (123, .slice ai am.length ac), (125, .slice b9 cc.length bg), (126, iv o)] dj ?_
 obtain ⟨F, fi, hm⟩ := gx_bind hm
 refine wC 35 #[.slice ai am.length ac, .slice b9 cc.length bg, iv o] ((c_i_Inflate dj am ai ac (ep.rd ba 6 (by kernel_rfl)) cc b9 bg (er.rd ba 7 (by kernel_rfl) 8 (by kernel_rfl)) o fi).mono ?_)
 rintro e_ cp ⟨aj, ad, gl, K, J, gm, gn, rfl, es, et, d8⟩
 have bb := ba.call d8
 refine ⟨_, rfl, ?_⟩
 refine wR 7 [(8, .slice x b.1.length v), (9, .slice u b.2.1.length t), (10, .bool b.2.2), (13, .slice k y.2.length j), (14, .slice f q.2.length d), (17, iv q.1), (19, .slice aj F.1.length ad), (20, .slice K F.2.1.length J), (21, .bool F.2.2)] cp (W_nil (N_then (G_seq (G_seq ?_))))
 obtain ⟨fp, eu, ei⟩ := gx_bind hm
 refine G_meet (fun a w' => Mem [] w w' [fy, fz, f0] ∧ Sat Try.f9.ntmps [(13, .slice k y.2.length j), (14, .slice f q.2.length d), (17, iv q.1), (145, .bool fp)] a) ?_ ?_
 ·have hm := eu
  refine G_region (wR 2 [(9, .slice u b.2.1.length t), (10, .bool b.2.2), (13, .slice k y.2.length j), (14, .slice f q.2.length d), (17, iv q.1), (20, .slice K F.2.1.length J), (21, .bool F.2.2), (131, .slice aj F.1.length ad), (132, .slice x b.1.length v)] cp ?_)
  obtain ⟨fw, fj, hm⟩ := gx_bind hm
  refine wC 18 #[.slice aj F.1.length ad, .slice x b.1.length v] ((c_l_eqIntS cp F.1 aj ad (es.rd bb 9 (by kernel_rfl)) b.1 x v (b2.rd bb 0 (by kernel_rfl)) fj).mono ?_)
  rintro e_ av ⟨rfl, d9⟩
  have aa := bb.call0 d9
  refine ⟨_, rfl, ?_⟩
  refine wR 2 [(9, .slice u b.2.1.length t), (10, .bool b.2.2), (13, .slice k y.2.length j), (14, .slice f q.2.length d), (17, iv q.1), (20, .slice K F.2.1.length J), (21, .bool F.2.2), (135, .bool (!fw))] av ?_
  rcases gx_bif hm with ⟨bv, hm⟩ | ⟨bv, hm⟩
  ·refine wK 135 true bv (wR 10 [(13, .slice k y.2.length j), (14, .slice f q.2.length d), (17, iv q.1), (145, .bool true)] av (W_nil ?_))
   obtain rfl := Option.some.inj hm
   exact N_meet fun a ha => ⟨aa.pk [3, 4, 5], ha.s⟩
  refine wK 135 false bv (wR 2 [(10, .bool b.2.2), (13, .slice k y.2.length j), (14, .slice f q.2.length d), (17, iv q.1), (21, .bool F.2.2), (135, .bool false), (136, .slice K F.2.1.length J), (137, .slice u b.2.1.length t)] av ?_)
  obtain ⟨fx, fk, hm⟩ := gx_bind hm
  refine wC 19 #[.slice K F.2.1.length J, .slice u b.2.1.length t] ((c_l_eqBalloonS av F.2.1 K J (et.rd aa 10 (by kernel_rfl) 11 (by kernel_rfl)) b.2.1 u t (b3.rd aa 1 (by kernel_rfl) 2 (by kernel_rfl)) fk).mono ?_)
  rintro e_ cq ⟨rfl, ea⟩
  have cy := aa.call0 ea
  refine ⟨_, rfl, ?_⟩
  refine wR 3 [(10, .bool b.2.2), (13, .slice k y.2.length j), (14, .slice f q.2.length d), (17, iv q.1), (21, .bool F.2.2), (141, .bool (!fx))] cq ?_
  rcases gx_bif hm with ⟨bw, hm⟩ | ⟨bw, hm⟩
  ·refine wK 141 true bw (wR 4 [(13, .slice k y.2.length j), (14, .slice f q.2.length d), (17, iv q.1), (145, .bool true)] cq (W_nil ?_))
   obtain rfl := Option.some.inj hm
   exact N_meet fun a ha => ⟨cy.pk [3, 4, 5], ha.s⟩
  refine wK 141 false bw (wR 4 [(13, .slice k y.2.length j), (14, .slice f q.2.length d), (17, iv q.1), (145, .bool (!(F.2.2 == b.2.2)))] cq (W_nil ?_))
  obtain rfl := Option.some.inj hm
  exact N_meet fun a ha => ⟨cy.pk [3, 4, 5], ha.s⟩
 intro f5 aw ⟨bc, ef⟩
 refine N_use ef ?_
 have hm := ei
 refine N_then ?_
 rcases gx_bif hm with ⟨bx, hm⟩ | ⟨bx, hm⟩
 ·refine gT bx (G_seq (G_region (wR 1 [(6, .bool false)] aw (W_nil (N_then (G_ret (N_then_ret ?_)))))))
  obtain rfl := Option.some.inj hm
  exact N_ret [.bool false] (rC RVs_nil) (⟨rfl, bc.pk []⟩)
 refine gF bx (G_skip (N_then (G_seq (G_region (wR 1 [(13, .slice k y.2.length j), (14, .slice f q.2.length d), (17, iv q.1), (18, iv 1)] aw (W_nil (N_then (G_seq (G_region (wR 2 [(14, .slice f q.2.length d), (17, iv q.1), (18, iv 1), (146, .slice k y.2.length j), (147, iv 1)] aw ?_))))))))))
 obtain ⟨H, fl, hm⟩ := gx_bind hm
 refine wC 29 #[.slice k y.2.length j, iv 1] ((c_l_heldIntS aw y.2 k j (c3.rd bc 0 (by kernel_rfl)) 1 fl).mono ?_)
 rintro e_ T ⟨rfl, eb⟩
 have bd := bc.call0 eb
 refine ⟨_, rfl, ?_⟩
 refine wR 1 [(14, .slice f q.2.length d), (17, iv q.1), (18, iv H)] T (W_nil (N_then (G_seq (G_seq (G_region (wR 2 [(14, .slice f q.2.length d), (17, iv q.1), (18, iv H), (150, .bool (decide (H < 0)))] T (W_nil (N_then ?_))))))))
 rcases gx_bif hm with ⟨bz, hm⟩ | ⟨bz, hm⟩
 ·refine gT bz (G_seq (G_region (wR 1 [(6, .bool false)] T (W_nil (N_then (G_ret (N_then_ret ?_)))))))
  obtain rfl := Option.some.inj hm
  exact N_ret [.bool false] (rC RVs_nil) (⟨rfl, bd.pk []⟩)
 refine gF bz (G_skip (N_then (G_seq (G_region (wR 2 [(17, iv q.1), (18, iv H), (151, .slice f q.2.length d), (152, iv H)] T ?_)))))
 obtain ⟨an, fm, hm⟩ := gx_bind hm
 refine wC 26 #[.slice f q.2.length d, iv H] ((c_l_heldBalloonS T q.2 f d (c4.rd bd 1 (by kernel_rfl) 2 (by kernel_rfl)) H fm).mono ?_)
 rintro e_ N ⟨rfl, ec⟩
 have be := bd.call0 ec
 refine ⟨_, rfl, ?_⟩
 refine wR 1 [(17, iv q.1), (18, iv an)] N (W_nil (N_then (G_seq (G_seq (G_region (wR 2 [(17, iv q.1), (18, iv an), (155, .bool (decide (an < 0)))] N (W_nil (N_then ?_))))))))
 rcases gx_bif hm with ⟨b0, hm⟩ | ⟨b0, hm⟩
 ·refine gT b0 (G_seq (G_region (wR 1 [(6, .bool false)] N (W_nil (N_then (G_ret (N_then_ret ?_)))))))
  obtain rfl := Option.some.inj hm
  exact N_ret [.bool false] (rC RVs_nil) (⟨rfl, be.pk []⟩)
 refine gF b0 (G_skip (N_then (G_seq (G_seq (G_region (wR 3 [(158, .bool (an != q.1))] N (W_nil (N_then ?_))))))))
 rcases gx_bif hm with ⟨b1, hm⟩ | ⟨b1, hm⟩
 ·refine gT b1 (G_seq (G_region (wR 1 [(6, .bool false)] N (W_nil (N_then (G_ret (N_then_ret ?_)))))))
  obtain rfl := Option.some.inj hm
  exact N_ret [.bool false] (rC RVs_nil) (⟨rfl, be.pk []⟩)
 refine gF b1 (G_skip (N_then (G_seq (G_region (wR 1 [(6, .bool true)] N (W_nil (N_then (G_ret ?_))))))))
 obtain rfl := Option.some.inj hm
 exact N_ret [.bool true] (rC RVs_nil) (⟨rfl, be.pk []⟩)
theorem c_s_SettleGuest (w : World) (i : List Int) (k : Option Addr) (j : Nat) (ap : rdS Gx.encI w i k j) (f : List Balloon) (c : Option Addr) (g : Nat) (N : rdD deepBalloon w f c g) (J : Int) {r : (List Int) × (List Balloon) × Int × Bool} (hm : M.s_SettleGuest i f J = some r) :
  Calls Try.prog 36 #[.slice k i.length j, .slice c f.length g, iv J] w fun e w' => ∃ (au : Option Addr) (am : Nat) (aw : Seg), ∃ (av : Option Addr) (an : Nat) (ax : Seg) (ay : Seg), e = .returned (.tuple #[.slice au r.1.length am, .slice av r.2.1.length an, iv r.2.2.1, .bool r.2.2.2]) ∧ ownS Gx.encI r.1 au am aw ∧ ownD deepBalloon r.2.1 av an ax ay ∧ Mem [] w w' [aw, ax, ay] := by
 unfold M.s_SettleGuest at hm
 refine cE Try.func36 ?_
 have M0 := Mem.refl [] w
 refine G_seq (G_region (wR 4 [(0, .slice k i.length j), (1, .slice c f.length g), (2, iv J)] w (W_nil (N_then (G_seq (G_region (wR 2 [(0, .slice k i.length j), (1, .slice c f.length g), (18, .slice c f.length g), (19, iv J)] w ?_)))))))
 obtain ⟨b, b1, hm⟩ := gx_bind hm
 refine wC 56 #[.slice c f.length g, iv J] ((c_s_l18Find w f c g (N.mem0 M0) J b1).mono ?_)
 rintro e_ af ⟨rfl, ba⟩
 have T := M0.call0 ba
 refine ⟨_, rfl, ?_⟩
 refine wR 1 [(0, .slice k i.length j), (1, .slice c f.length g), (10, iv b)] af (W_nil (N_then (G_seq (G_seq ?_))))
 obtain ⟨b8, bs, bn⟩ := gx_bind hm
 refine G_meet (fun a w' => Mem [] w w' [] ∧ Sat Try.f36.ntmps [(0, .slice k i.length j), (1, .slice c f.length g), (10, iv b), (28, .bool b8)] a) ?_ ?_
 ·have hm := bs
  refine G_region (wR 2 [(0, .slice k i.length j), (1, .slice c f.length g), (10, iv b), (21, .slice k i.length j), (22, .slice c f.length g)] af ?_)
  obtain ⟨b9, b2, hm⟩ := gx_bind hm
  refine wC 47 #[.slice k i.length j, .slice c f.length g] ((c_s_l18Good af i k j (ap.mem0 T) f c g (N.mem0 T) b2).mono ?_)
  rintro e_ ag ⟨rfl, bb⟩
  have aj := T.call0 bb
  refine ⟨_, rfl, ?_⟩
  refine wR 2 [(0, .slice k i.length j), (1, .slice c f.length g), (10, iv b), (25, .bool (!b9))] ag ?_
  rcases gx_bif hm with ⟨X, hm⟩ | ⟨X, hm⟩
  ·refine wK 25 true X (wR 3 [(0, .slice k i.length j), (1, .slice c f.length g), (10, iv b), (28, .bool true)] ag (W_nil ?_))
   obtain rfl := Option.some.inj hm
   exact N_meet fun a ha => ⟨aj.pk [], ha.s⟩
  refine wK 25 false X (wR 3 [(0, .slice k i.length j), (1, .slice c f.length g), (10, iv b), (28, .bool (decide (b < 0)))] ag (W_nil ?_))
  obtain rfl := Option.some.inj hm
  exact N_meet fun a ha => ⟨aj.pk [], ha.s⟩
 intro ch a5 ⟨U, bl⟩
 refine N_use bl ?_
 have hm := bn
 refine N_then ?_
 rcases gx_bif hm with ⟨Y, hm⟩ | ⟨Y, hm⟩
 ·refine gT Y (G_seq (G_region (wL (E := Gx.encI) ([] : List Int) 0 [] 3 U ?_)))
  intro ac V ae a6 bt be
  have bf : Mem [] w a6 [ae] := be.pk [0]
  have bg : Mem [] w a6 [ae, []] := bf.regroup (by simp)
  refine W_litD (D := deepBalloon) [] ([] : List Balloon) rfl 0 [] 50 bg (by kernel_rfl) (by kernel_rfl) (by kernel_rfl) (by kernel_rfl) (by kernel_rfl) ownI_nil ?_
  intro ad W cd ce bu bh
  refine wR 4 [(6, .slice ac ([] : List Int).length V), (7, .slice ad ([] : List Balloon).length W), (8, iv 0), (9, .bool false)] ce (W_nil (N_then (G_ret (N_then_ret ?_))))
  obtain rfl := Option.some.inj hm
  exact N_ret [.slice ac ([] : List Int).length V, .slice ad ([] : List Balloon).length W, iv 0, .bool false] (rC (rC (rC (rC RVs_nil)))) (⟨ac, V, ae, ad, W, cd, [], rfl, bt, bu, bh.pk [0, 2, 1]⟩)
 refine gF Y (G_skip (N_then (G_seq (G_region (wR 1 [(1, .slice c f.length g), (10, iv b), (31, .slice k i.length j)] a5 ?_)))))
 obtain ⟨z, b3, hm⟩ := gx_bind hm
 refine wC 71 #[.slice k i.length j] ((c_s_l1Own a5 i k j (ap.mem0 U) b3).mono ?_)
 rintro e_ a7 ⟨v, u, az, rfl, bv, bc⟩
 have ak := U.call bc
 refine ⟨_, rfl, ?_⟩
 refine wR 1 [(1, .slice c f.length g), (10, iv b), (32, .slice v z.length u), (33, .slice c f.length g)] a7 ?_
 obtain ⟨A, b4, hm⟩ := gx_bind hm
 refine wC 58 #[.slice c f.length g, iv (-1), iv 0, .slice none 0 0] ((c_s_l18With a7 f c g (N.mem0 ak) (-1) 0 ([] : List Int) none 0 rdS_nil b4).mono ?_)
 rintro e_ a8 ⟨y, x, a0, a3, rfl, bw, bd⟩
 have bi := ak.call bd
 refine ⟨_, rfl, ?_⟩
 refine wR 3 [(1, .slice c f.length g), (10, iv b), (11, .slice v z.length u), (12, .slice y A.length x), (13, iv 0)] a8 (W_nil (N_then (G_seq (G_region (wR 1 [(1, .slice c f.length g), (10, iv b), (11, .slice v z.length u), (12, .slice y A.length x), (13, iv 0), (14, iv 1)] a8 (W_nil (N_then (G_seq (G_seq (G_quiet (by kernel_rfl) (by kernel_rfl) bi (zR [.slice c f.length g, iv b] [(1, .slice c f.length g), (10, iv b), (11, .slice v z.length u), (12, .slice y A.length x), (13, iv 0), (14, iv 1), (35, .slice c f.length g), (36, iv b)] ?_)))))))))))
 obtain ⟨L, b6, hm⟩ := gx_bind hm
 obtain ⟨co, O, F, ck⟩ := id N
 obtain ⟨ao, aa⟩ := gxIdx_fst O b6
 refine zV (elemP c (b.toNat * 3)) (fun w_ M_ => (eI (F.mem0 M_) (len_fst O) aa)) (zV (elemP c (b.toNat * 3 + 2)) (fun w_ M_ => (eF 2 (b.toNat * 3) 2 (F.mem0 M_) aa)) (zV (.slice ((ao 0).1) L.Gave.length ((ao 0).2)) (fun w_ M_ => (eE false 1 2 (b.toNat * 3 + 2) (F.mem0 M_) aa)) (zR [iv (L.Gave.length : Int), .slice c f.length g, iv b] [(10, iv b), (11, .slice v z.length u), (12, .slice y A.length x), (13, iv 0), (14, iv 1), (40, iv (L.Gave.length : Int)), (41, .slice c f.length g), (42, iv b)] ?_)))
 obtain ⟨ah, b7, hm⟩ := gx_bind hm
 obtain ⟨cj, ab⟩ := gxIdx_fst O b7
 refine zV (elemP c (b.toNat * 3)) (fun w_ M_ => (eI (F.mem0 M_) (len_fst O) ab)) (zV (elemP c (b.toNat * 3 + 1)) (fun w_ M_ => (eF 1 (b.toNat * 3) 1 (F.mem0 M_) ab)) (zV (iv ah.Goal) (fun w_ M_ => (eE false 1 1 (b.toNat * 3 + 1) (F.mem0 M_) ab)) (zR [.bool (decide ((L.Gave.length : Int) > ah.Goal))] [(10, iv b), (11, .slice v z.length u), (12, .slice y A.length x), (13, iv 0), (14, iv 1), (46, .bool (decide ((L.Gave.length : Int) > ah.Goal)))] (Z_end fun cf al => (N_then ?_)))))
 obtain ⟨t, bx, bo⟩ := gx_bind hm
 refine G_meet (fun a w' => Mem [] w w' [az, a0, a3] ∧ Sat Try.f36.ntmps [(10, iv b), (11, .slice v z.length u), (12, .slice y A.length x), (13, iv 0), (14, iv t)] a) ?_ ?_
 ·have hm := bx
  rcases gx_bif hm with ⟨Z, hm⟩ | ⟨Z, hm⟩
  ·refine gT Z (G_region (wR 1 [(10, iv b), (11, .slice v z.length u), (12, .slice y A.length x), (13, iv 0), (14, iv (-1))] cf (W_nil ?_)))
   obtain rfl := Option.some.inj hm
   exact N_meet fun a ha => ⟨al.pk [0, 1, 2], ha.s⟩
  refine gF Z (G_skip ?_)
  obtain rfl := Option.some.inj hm
  exact N_meet fun a ha => ⟨al.pk [0, 1, 2], ha.s⟩
 intro ci cm ⟨bj, bm⟩
 refine N_use bm ?_
 have hm := bo
 refine N_then ?_
 obtain ⟨cl, b5, bp⟩ := gx_bind hm
 refine G_meet (fun a w' => False) ?_ ?_
 ·refine G_block (G_while (σ := List Int × List Balloon × Int) (ρ := (List Int) × (List Balloon) × Int × Bool) (fun d a w' => ∃ (n : Option Addr), ∃ (l : Nat), ∃ (P : Seg), ∃ (o : Option Addr), ∃ (m : Nat), ∃ (Q : Seg), ∃ (R : Seg), ownS Gx.encI d.1 n l P ∧ ownD deepBalloon d.2.1 o m Q R ∧ Mem [] w w' [P, Q, R] ∧ Sat Try.f36.ntmps [(10, iv b), (11, .slice n d.1.length l), (12, .slice o d.2.1.length m), (13, iv d.2.2), (14, iv t)] a) b5 (fun a ha => ⟨v, u, az, y, x, a0, a3, bv, bw, bj.pk [0, 1, 2], ha.s⟩) ?_)
  clear hm
  intro d cn hm bz cg a4 ⟨n, l, P, o, m, Q, R, aq, ar, S, bk⟩
  refine G_use bk (G_block (G_seq (G_region (wR 4 [(10, iv b), (11, .slice n d.1.length l), (12, .slice o d.2.1.length m), (13, iv d.2.2), (14, iv t), (48, .slice n d.1.length l), (49, .slice o d.2.1.length m), (50, iv b), (51, iv t)] a4 ?_))))
  obtain ⟨q, b0, hm⟩ := gx_bind hm
  refine wC 68 #[.slice n d.1.length l, .slice o d.2.1.length m, iv b, iv t] ((c_s_l18Step a4 d.1 n l (aq.rd S 0 (by kernel_rfl)) d.2.1 o m (ar.rd S 1 (by kernel_rfl) 2 (by kernel_rfl)) b t b0).mono ?_)
  rintro e_ I ⟨G, B, ca, H, C, cb, cc, rfl, bq, br, a9⟩
  have ai := S.call a9
  refine ⟨_, rfl, ?_⟩
  refine wR 7 [(10, iv b), (11, .slice n d.1.length l), (12, .slice o d.2.1.length m), (13, iv d.2.2), (14, iv t), (15, .slice G q.1.length B), (16, .slice H q.2.1.length C), (17, .bool q.2.2)] I (W_nil (N_then (G_seq (G_seq (G_region (wR 2 [(10, iv b), (11, .slice n d.1.length l), (12, .slice o d.2.1.length m), (13, iv d.2.2), (14, iv t), (15, .slice G q.1.length B), (16, .slice H q.2.1.length C), (57, .bool (!q.2.2))] I (W_nil (N_then ?_))))))))
  rcases gx_bif hm with ⟨K, hm⟩ | ⟨K, hm⟩
  ·refine gT K (G_seq (G_region (wR 7 [(6, .slice n d.1.length l), (7, .slice o d.2.1.length m), (8, iv d.2.2), (9, .bool true)] I (W_nil (N_then (G_ret (N_then_ret (N_block_ret (N_then_ret ?_)))))))))
   obtain rfl := Option.some.inj hm
   obtain rfl := bz _ rfl
   have hm := bp
   refine N_block_ret (N_meet_ret ?_)
   obtain rfl := Option.some.inj hm
   exact N_ret [.slice n d.1.length l, .slice o d.2.1.length m, iv d.2.2, .bool true] (rC (rC (rC (rC RVs_nil)))) (⟨n, l, P, o, m, Q, R, rfl, aq, ar, ai.pk [0, 1, 2]⟩)
  refine gF K (G_skip (N_then (G_seq (G_region (wR 2 [(10, iv b), (11, .slice G q.1.length B), (13, iv d.2.2), (14, iv t), (16, .slice H q.2.1.length C)] I (W_nil (N_then (G_seq (G_region (wR 2 [(10, iv b), (11, .slice G q.1.length B), (12, .slice H q.2.1.length C), (13, iv d.2.2), (14, iv t)] I (W_nil (N_then (G_region (wR 3 [(10, iv b), (11, .slice G q.1.length B), (12, .slice H q.2.1.length C), (13, iv (w64 (d.2.2 + 1))), (14, iv t)] I (W_nil ?_)))))))))))))))
  refine N_block ?_
  obtain rfl := Option.some.inj hm
  exact N_loop fun a ha => ⟨_, rfl, G, B, ca, H, C, cb, cc, (bq (by simpa using K)), (br (by simpa using K)), ai.pk [3, 4, 5], ha.s⟩
 intro _ _ h
 exact h.elim
theorem c_i_SettleGuest (w : World) (m : List Int) (o : Option Addr) (n : Nat) (Z : rdS Gx.encI w m o n) (j : List Balloon) (l : Option Addr) (k : Nat) (aa : rdD deepBalloon w j l k) (A : Int) {r : (List Int) × (List Balloon) × Int × Bool} (hm : M.i_SettleGuest m j A = some r) :
  Calls Try.prog 37 #[.slice o m.length n, .slice l j.length k, iv A] w fun e w' => ∃ (ah : Option Addr) (X : Nat) (ak : Seg), ∃ (ai : Option Addr) (Y : Nat) (al : Seg) (am : Seg), e = .returned (.tuple #[.slice ah r.1.length X, .slice ai r.2.1.length Y, iv r.2.2.1, .bool r.2.2.2]) ∧ ownS Gx.encI r.1 ah X ak ∧ ownD deepBalloon r.2.1 ai Y al am ∧ Mem [] w w' [ak, al, am] := by
 unfold M.i_SettleGuest at hm
 refine cE Try.func37 ?_
 have M0 := Mem.refl [] w
 refine G_seq (G_region (wR 4 [(0, .slice o m.length n), (1, .slice l j.length k), (2, iv A)] w (W_nil (N_then (G_seq (G_region (wR 3 [(0, .slice o m.length n), (1, .slice l j.length k), (16, .slice o m.length n), (17, .slice l j.length k), (18, iv A)] w ?_)))))))
 obtain ⟨h, bj, hm⟩ := gx_bind hm
 refine wC 59 #[.slice o m.length n, .slice l j.length k, iv A] ((c_i_balloonOf w m o n (Z.mem0 M0) j l k (aa.mem0 M0) A bj).mono ?_)
 rintro e_ F ⟨rfl, ar⟩
 have P := M0.call0 ar
 refine ⟨_, rfl, ?_⟩
 refine wR 5 [(0, .slice o m.length n), (1, .slice l j.length k), (10, iv h.1), (11, .bool h.2)] F (W_nil (N_then (G_seq (G_seq (G_region (wR 2 [(0, .slice o m.length n), (1, .slice l j.length k), (10, iv h.1), (23, .bool (!h.2))] F (W_nil (N_then ?_))))))))
 rcases gx_bif hm with ⟨Q, hm⟩ | ⟨Q, hm⟩
 ·refine gT Q (G_seq (G_region (wR 4 [(6, .slice none 0 0), (7, .slice none 0 0), (8, iv 0), (9, .bool false)] F (W_nil (N_then (G_ret (N_then_ret ?_)))))))
  obtain rfl := Option.some.inj hm
  exact N_ret [.slice none 0 0, .slice none 0 0, iv 0, .bool false] (rC (rC (rC (rC RVs_nil)))) (⟨none, 0, [], none, 0, [], [], rfl, ownS_nil, ownD_nil, P.pk [100000, 100001, 100002]⟩)
 refine gF Q (G_skip (N_then (G_seq (G_region (wR 1 [(1, .slice l j.length k), (10, iv h.1), (24, .slice o m.length n)] F ?_)))))
 obtain ⟨aj, bk, hm⟩ := gx_bind hm
 refine wC 62 #[.slice o m.length n] ((c_i_copyInts F m o n (Z.mem0 P) bk).mono ?_)
 rintro e_ aq ⟨d, c, bu, rfl, ba, au⟩
 have V := P.call au
 refine ⟨_, rfl, ?_⟩
 refine wR 1 [(10, iv h.1), (25, .slice d aj.length c), (26, .slice l j.length k)] aq ?_
 obtain ⟨bt, bl, hm⟩ := gx_bind hm
 refine wC 60 #[.slice l j.length k] ((c_i_newBalloons aq j l k (aa.mem0 V) bl).mono ?_)
 rintro e_ b1 ⟨b, f, bv, bw, rfl, bb, av⟩
 have ay := V.call av
 refine ⟨_, rfl, ?_⟩
 refine wR 3 [(10, iv h.1), (12, .slice d aj.length c), (13, .slice b bt.length f), (14, iv 0)] b1 (W_nil (N_then (G_seq ?_)))
 obtain ⟨q, bq, a9⟩ := gx_bind hm
 refine G_meet (fun a w' => ∃ (L : Seg), ∃ (N : Seg), ∃ (O : Seg), ownS Gx.encI q.2.1 d c L ∧ ownD deepBalloon q.2.2 b f N O ∧ Mem [] w w' [L, N, O] ∧ Sat Try.f37.ntmps [(12, .slice d q.2.1.length c), (13, .slice b q.2.2.length f), (14, iv q.1)] a) ?_ ?_
 ·refine G_block (G_while (σ := Int × List Int × List Balloon) (ρ := Int × List Int × List Balloon) (fun g a w' => ∃ (I : Seg), ∃ (J : Seg), ∃ (K : Seg), ownS Gx.encI g.2.1 d c I ∧ ownD deepBalloon g.2.2 b f J K ∧ Mem [] w w' [I, J, K] ∧ Sat Try.f37.ntmps [(10, iv h.1), (12, .slice d g.2.1.length c), (13, .slice b g.2.2.length f), (14, iv g.1)] a) bq (fun a ha => ⟨bu, bv, bw, ba, bb, ay.pk [0, 1, 2], ha.s⟩) ?_)
  clear hm
  intro g cc hm bi b5 U ⟨I, J, K, bc, ab, H, a3⟩
  refine G_use a3 (G_seq (G_seq ?_))
  obtain ⟨y, bf, a8⟩ := gx_bind hm
  refine G_meet (fun a w' => ∃ (C : Seg), ∃ (D : Seg), ∃ (E : Seg), ownS Gx.encI y.2.1 d c C ∧ ownD deepBalloon y.2.2 b f D E ∧ Mem [] w w' [C, D, E] ∧ Sat Try.f37.ntmps [(10, iv h.1), (12, .slice d y.2.1.length c), (13, .slice b y.2.2.length f), (14, iv g.1), (39, .bool y.1)] a) ?_ ?_
  ·have hm := bf
   refine G_region (wR 3 [(10, iv h.1), (12, .slice d g.2.1.length c), (13, .slice b g.2.2.length f), (14, iv g.1), (28, .slice d g.2.1.length c), (29, .slice b g.2.2.length f), (30, iv h.1)] U ?_)
   obtain ⟨cd, br, hm⟩ := gx_bind hm
   obtain ⟨cf, af, bm, ca⟩ := id ab
   obtain ⟨b8, a6⟩ := gxIdx_fst af br
   refine wV (elemP b (h.1.toNat * 3)) U (eI (bm.rd H 1 (by kernel_rfl)) (len_fst af) a6) ?_
   obtain ⟨i, bn, hm⟩ := gx_bind hm
   refine wC 70 #[.slice d g.2.1.length c, elemP b (h.1.toNat * 3)] ((c_i_inflate__e1 U g.2.1 d c I bc g.2.2 b f J K ab h.1 (H.hasPick [0, 1, 2]) (H.nodupPick [0, 1, 2] (by kernel_rfl)) bn).mono ?_)
   rintro e_ G ⟨an, ao, ap, rfl, ae, t, T, u, aw⟩
   have B := H.callF' [0, 1, 2] [] (by kernel_rfl) aw
   refine ⟨_, rfl, ?_⟩
   refine wX 12 (.slice d g.2.1.length c) (.slice d i.2.1.length c) (by first | rw [t, u] | rw [t] | rw [u]) (wX 13 (.slice b g.2.2.length f) (.slice b i.2.2.length f) (by first | rw [t, u] | rw [t] | rw [u]) (wX 28 (.slice d g.2.1.length c) (.slice d i.2.1.length c) (by first | rw [t, u] | rw [t] | rw [u]) (wX 29 (.slice b g.2.2.length f) (.slice b i.2.2.length f) (by first | rw [t, u] | rw [t] | rw [u]) (wR 1 [(10, iv h.1), (12, .slice d i.2.1.length c), (13, .slice b i.2.2.length f), (14, iv g.1), (33, .bool i.1)] G ?_))))
   rcases gx_bif hm with ⟨R, hm⟩ | ⟨R, hm⟩
   ·refine wK 33 true R (wR 6 [(10, iv h.1), (12, .slice d i.2.1.length c), (13, .slice b i.2.2.length f), (14, iv g.1), (39, .bool true)] G (W_nil ?_))
    obtain rfl := Option.some.inj hm
    exact N_meet fun a ha => ⟨an, ao, ap, ae, T, B.pk [0, 1, 2], ha.s⟩
   refine wK 33 false R (wR 3 [(10, iv h.1), (12, .slice d i.2.1.length c), (13, .slice b i.2.2.length f), (14, iv g.1), (33, .bool false), (34, .slice d i.2.1.length c), (35, .slice b i.2.2.length f), (36, iv h.1)] G ?_)
   obtain ⟨ce, bs, hm⟩ := gx_bind hm
   obtain ⟨cg, ag, bo, cb⟩ := id T
   obtain ⟨b9, a7⟩ := gxIdx_fst ag bs
   refine wV (elemP b (h.1.toNat * 3)) G (eI (bo.rd B 1 (by kernel_rfl)) (len_fst ag) a7) ?_
   obtain ⟨z, bp, hm⟩ := gx_bind hm
   refine wC 69 #[.slice d i.2.1.length c, elemP b (h.1.toNat * 3)] ((c_i_deflate__e1 G i.2.1 d c an ae i.2.2 b f ao ap T h.1 (B.hasPick [0, 1, 2]) (B.nodupPick [0, 1, 2] (by kernel_rfl)) bp).mono ?_)
   rintro e_ b2 ⟨bx, bz, b0, rfl, bg, v, bh, x, ax⟩
   have az := B.callF' [0, 1, 2] [] (by kernel_rfl) ax
   refine ⟨_, rfl, ?_⟩
   refine wX 12 (.slice d i.2.1.length c) (.slice d z.2.1.length c) (by first | rw [v, x] | rw [v] | rw [x]) (wX 13 (.slice b i.2.2.length f) (.slice b z.2.2.length f) (by first | rw [v, x] | rw [v] | rw [x]) (wX 34 (.slice d i.2.1.length c) (.slice d z.2.1.length c) (by first | rw [v, x] | rw [v] | rw [x]) (wX 35 (.slice b i.2.2.length f) (.slice b z.2.2.length f) (by first | rw [v, x] | rw [v] | rw [x]) (wR 1 [(10, iv h.1), (12, .slice d z.2.1.length c), (13, .slice b z.2.2.length f), (14, iv g.1), (39, .bool z.1)] b2 (W_nil ?_)))))
   obtain rfl := Option.some.inj hm
   exact N_meet fun a ha => ⟨bx, bz, b0, bg, bh, az.pk [0, 1, 2], ha.s⟩
  intro b6 b3 ⟨C, D, E, ac, ad, W, a4⟩
  refine N_use a4 ?_
  have hm := a8
  refine N_then ?_
  rcases gx_bif hm with ⟨S, hm⟩ | ⟨S, hm⟩
  ·refine gT S (G_skip (N_then (G_block (G_region (wR 3 [(10, iv h.1), (12, .slice d y.2.1.length c), (13, .slice b y.2.2.length f), (14, iv (w64 (g.1 + 1)))] b3 (W_nil (N_block ?_)))))))
   obtain rfl := Option.some.inj hm
   exact N_loop fun a ha => ⟨_, rfl, C, D, E, ac, ad, W.pk [0, 1, 2], ha.s⟩
  refine gF S (G_exit (N_then_exit (N_then_exit (N_block_eq ?_))))
  obtain rfl := Option.some.inj hm
  obtain rfl := bi _ rfl
  exact N_meet fun a ha => ⟨C, D, E, ac, ad, W.pk [0, 1, 2], ha.s⟩
 intro b7 b4 ⟨L, N, O, bd, be, a0, a5⟩
 refine N_use a5 ?_
 have hm := a9
 refine N_then (G_seq (G_region (wR 7 [(6, .slice d q.2.1.length c), (7, .slice b q.2.2.length f), (8, iv q.1), (9, .bool true)] b4 (W_nil (N_then (G_ret ?_))))))
 obtain rfl := Option.some.inj hm
 exact N_ret [.slice d q.2.1.length c, .slice b q.2.2.length f, iv q.1, .bool true] (rC (rC (rC (rC RVs_nil)))) (⟨d, c, L, b, f, N, O, rfl, bd, be, a0.pk [0, 1, 2]⟩)
theorem c_l_FnExactSettleGuest (w : World) (l : List Int) (n : Option Addr) (m : Nat) (ah : rdS Gx.encI w l n m) (i : List Balloon) (k : Option Addr) (j : Nat) (O : rdD deepBalloon w i k j) (o : Int) {r : Bool} (hm : M.l_FnExactSettleGuest l i o = some r) :
  Calls Try.prog 10 #[.slice n l.length m, .slice k i.length j, iv o] w fun e w' => e = .returned (.bool r) ∧ Mem [] w w' [] := by
 unfold M.l_FnExactSettleGuest at hm
 refine cE Try.func10 ?_
 have M0 := Mem.refl [] w
 refine G_seq (G_region (wR 1 [(0, .slice n l.length m), (1, .slice k i.length j), (2, iv o)] w (W_nil (N_then (G_seq (G_seq (G_region (wR 3 [(0, .slice n l.length m), (1, .slice k i.length j), (2, iv o), (27, .bool (decide ((l.length : Int) > 1048576)))] w (W_nil (N_then ?_))))))))))
 rcases gx_bif hm with ⟨b9, hm⟩ | ⟨b9, hm⟩
 ·refine gT b9 (G_seq (G_region (wR 1 [(6, .bool true)] w (W_nil (N_then (G_ret (N_then_ret ?_)))))))
  obtain rfl := Option.some.inj hm
  exact N_ret [.bool true] (rC RVs_nil) (⟨rfl, M0.pk []⟩)
 refine gF b9 (G_skip (N_then (G_seq (G_region (wR 1 [(0, .slice n l.length m), (1, .slice k i.length j), (2, iv o), (7, iv 1048576)] w (W_nil (N_then (G_seq (G_region (wR 2 [(0, .slice n l.length m), (1, .slice k i.length j), (2, iv o), (7, iv 1048576), (28, .slice k i.length j), (29, iv 1048576)] w ?_))))))))))
 obtain ⟨dc, fn, hm⟩ := gx_bind hm
 refine wC 13 #[.slice k i.length j, iv 1048576] ((c_l_szBalloonS w i k j (O.mem0 M0) 1048576 fn).mono ?_)
 rintro e_ W ⟨rfl, ed⟩
 have bj := M0.call0 ed
 refine ⟨_, rfl, ?_⟩
 refine wR 1 [(0, .slice n l.length m), (1, .slice k i.length j), (2, iv o), (7, iv dc)] W (W_nil (N_then (G_seq (G_seq (G_region (wR 2 [(0, .slice n l.length m), (1, .slice k i.length j), (2, iv o), (32, .bool (decide (dc < 0)))] W (W_nil (N_then ?_))))))))
 rcases gx_bif hm with ⟨ca, hm⟩ | ⟨ca, hm⟩
 ·refine gT ca (G_seq (G_region (wR 1 [(6, .bool true)] W (W_nil (N_then (G_ret (N_then_ret ?_)))))))
  obtain rfl := Option.some.inj hm
  exact N_ret [.bool true] (rC RVs_nil) (⟨rfl, bj.pk []⟩)
 refine gF ca (G_skip (N_then (G_seq (G_region (wR 1 [(0, .slice n l.length m), (1, .slice k i.length j), (2, iv o), (34, .slice n l.length m)] W ?_)))))
 obtain ⟨aq, fo, hm⟩ := gx_bind hm
 refine wC 15 #[.slice n l.length m] ((c_l_toIntS W l n m (ah.mem0 bj) fo).mono ?_)
 rintro e_ dl ⟨am, ag, gn, rfl, ew, ee⟩
 have c1 := bj.call ee
 refine ⟨_, rfl, ?_⟩
 refine wR 1 [(0, .slice n l.length m), (1, .slice k i.length j), (2, iv o), (35, .slice am aq.length ag), (36, .slice k i.length j)] dl ?_
 obtain ⟨cl, fp, hm⟩ := gx_bind hm
 refine wC 16 #[.slice k i.length j] ((c_l_toBalloonS dl i k j (O.mem0 c1) fp).mono ?_)
 rintro e_ dm ⟨ci, bm, go, gp, rfl, ex, ef⟩
 have bk := c1.call ef
 refine ⟨_, rfl, ?_⟩
 refine wR 1 [(0, .slice n l.length m), (1, .slice k i.length j), (2, iv o), (35, .slice am aq.length ag), (37, .slice ci cl.length bm), (38, iv o)] dm ?_
 obtain ⟨b, ey, hm⟩ := gx_bind hm
 refine wC 36 #[.slice am aq.length ag, .slice ci cl.length bm, iv o] ((c_s_SettleGuest dm aq am ag (ew.rd bk 0 (by kernel_rfl)) cl ci bm (ex.rd bk 1 (by kernel_rfl) 2 (by kernel_rfl)) o ey).mono ?_)
 rintro e_ cp ⟨x, v, dd, u, t, de, df, rfl, cb, cc, dn⟩
 have cx := bk.call dn
 refine ⟨_, rfl, ?_⟩
 refine wR 9 [(0, .slice n l.length m), (1, .slice k i.length j), (2, iv o), (8, .slice x b.1.length v), (9, .slice u b.2.1.length t), (10, iv b.2.2.1), (11, .bool b.2.2.2)] cp (W_nil (N_then (G_seq (G_region (wR 1 [(0, .slice n l.length m), (1, .slice k i.length j), (2, iv o), (8, .slice x b.1.length v), (9, .slice u b.2.1.length t), (10, iv b.2.2.1), (11, .bool b.2.2.2), (44, .slice n l.length m)] cp ?_)))))
 obtain ⟨D, ez, hm⟩ := gx_bind hm
 refine wC 15 #[.slice n l.length m] ((c_l_toIntS cp l n m (ah.mem0 cx) ez).mono ?_)
 rintro e_ cq ⟨B, z, dg, rfl, cd, dp⟩
 have cy := cx.call dp
 refine ⟨_, rfl, ?_⟩
 refine wR 1 [(0, .slice n l.length m), (1, .slice k i.length j), (2, iv o), (8, .slice x b.1.length v), (9, .slice u b.2.1.length t), (10, iv b.2.2.1), (11, .bool b.2.2.2), (12, .slice B D.length z)] cq (W_nil (N_then (G_seq (G_region (wR 1 [(0, .slice n l.length m), (1, .slice k i.length j), (2, iv o), (8, .slice x b.1.length v), (9, .slice u b.2.1.length t), (10, iv b.2.2.1), (11, .bool b.2.2.2), (12, .slice B D.length z), (46, .slice k i.length j)] cq ?_)))))
 obtain ⟨E, e0, hm⟩ := gx_bind hm
 refine wC 16 #[.slice k i.length j] ((c_l_toBalloonS cq i k j (O.mem0 cy) e0).mono ?_)
 rintro e_ cr ⟨C, A, dh, di, rfl, ce, dq⟩
 have a0 := cy.call dq
 refine ⟨_, rfl, ?_⟩
 refine wR 1 [(0, .slice n l.length m), (1, .slice k i.length j), (2, iv o), (8, .slice x b.1.length v), (9, .slice u b.2.1.length t), (10, iv b.2.2.1), (11, .bool b.2.2.2), (12, .slice B D.length z), (13, .slice C E.length A)] cr (W_nil (N_then (G_seq (G_region (wR 3 [(0, .slice n l.length m), (1, .slice k i.length j), (2, iv o), (8, .slice x b.1.length v), (9, .slice u b.2.1.length t), (10, iv b.2.2.1), (11, .bool b.2.2.2), (12, .slice B D.length z), (13, .slice C E.length A), (49, .slice B D.length z), (50, .slice C E.length A), (51, iv o)] cr ?_)))))
 obtain ⟨c, e1, hm⟩ := gx_bind hm
 refine wC 37 #[.slice B D.length z, .slice C E.length A, iv o] ((c_i_SettleGuest cr D B z (cd.rd a0 6 (by kernel_rfl)) E C A (ce.rd a0 7 (by kernel_rfl) 8 (by kernel_rfl)) o e1).mono ?_)
 rintro e_ cs ⟨h, g, cm, f, d, cn, co, rfl, cf, cg, dr⟩
 have a3 := a0.call dr
 refine ⟨_, rfl, ?_⟩
 refine wR 9 [(0, .slice n l.length m), (1, .slice k i.length j), (2, iv o), (8, .slice x b.1.length v), (9, .slice u b.2.1.length t), (10, iv b.2.2.1), (11, .bool b.2.2.2), (12, .slice B D.length z), (13, .slice C E.length A), (14, .slice h c.1.length g), (15, .slice f c.2.1.length d), (16, iv c.2.2.1), (17, .bool c.2.2.2)] cs (W_nil (N_then (G_seq (G_seq ?_))))
 obtain ⟨fq, em, ej⟩ := gx_bind hm
 refine G_meet (fun a w' => Mem [] w w' [dd, de, df, dg, dh, di, cm, cn, co] ∧ Sat Try.f10.ntmps [(0, .slice n l.length m), (1, .slice k i.length j), (2, iv o), (8, .slice x b.1.length v), (9, .slice u b.2.1.length t), (10, iv b.2.2.1), (11, .bool b.2.2.2), (12, .slice B D.length z), (13, .slice C E.length A), (14, .slice h c.1.length g), (15, .slice f c.2.1.length d), (16, iv c.2.2.1), (17, .bool c.2.2.2), (76, .bool fq)] a) ?_ ?_
 ·have hm := em
  refine G_region (wR 2 [(0, .slice n l.length m), (1, .slice k i.length j), (2, iv o), (8, .slice x b.1.length v), (9, .slice u b.2.1.length t), (10, iv b.2.2.1), (11, .bool b.2.2.2), (12, .slice B D.length z), (13, .slice C E.length A), (14, .slice h c.1.length g), (15, .slice f c.2.1.length d), (16, iv c.2.2.1), (17, .bool c.2.2.2), (57, .slice h c.1.length g), (58, .slice x b.1.length v)] cs ?_)
  obtain ⟨ft, e2, hm⟩ := gx_bind hm
  refine wC 18 #[.slice h c.1.length g, .slice x b.1.length v] ((c_l_eqIntS cs c.1 h g (cf.rd a3 9 (by kernel_rfl)) b.1 x v (cb.rd a3 3 (by kernel_rfl)) e2).mono ?_)
  rintro e_ ar ⟨rfl, ds⟩
  have X := a3.call0 ds
  refine ⟨_, rfl, ?_⟩
  refine wR 2 [(0, .slice n l.length m), (1, .slice k i.length j), (2, iv o), (8, .slice x b.1.length v), (9, .slice u b.2.1.length t), (10, iv b.2.2.1), (11, .bool b.2.2.2), (12, .slice B D.length z), (13, .slice C E.length A), (14, .slice h c.1.length g), (15, .slice f c.2.1.length d), (16, iv c.2.2.1), (17, .bool c.2.2.2), (61, .bool (!ft))] ar ?_
  rcases gx_bif hm with ⟨bn, hm⟩ | ⟨bn, hm⟩
  ·refine wK 61 true bn (wR 15 [(0, .slice n l.length m), (1, .slice k i.length j), (2, iv o), (8, .slice x b.1.length v), (9, .slice u b.2.1.length t), (10, iv b.2.2.1), (11, .bool b.2.2.2), (12, .slice B D.length z), (13, .slice C E.length A), (14, .slice h c.1.length g), (15, .slice f c.2.1.length d), (16, iv c.2.2.1), (17, .bool c.2.2.2), (76, .bool true)] ar (W_nil ?_))
   obtain rfl := Option.some.inj hm
   exact N_meet fun a ha => ⟨X.pk [3, 4, 5, 6, 7, 8, 9, 10, 11], ha.s⟩
  refine wK 61 false bn (wR 2 [(0, .slice n l.length m), (1, .slice k i.length j), (2, iv o), (8, .slice x b.1.length v), (9, .slice u b.2.1.length t), (10, iv b.2.2.1), (11, .bool b.2.2.2), (12, .slice B D.length z), (13, .slice C E.length A), (14, .slice h c.1.length g), (15, .slice f c.2.1.length d), (16, iv c.2.2.1), (17, .bool c.2.2.2), (61, .bool false), (62, .slice f c.2.1.length d), (63, .slice u b.2.1.length t)] ar ?_)
  obtain ⟨fu, e3, hm⟩ := gx_bind hm
  refine wC 19 #[.slice f c.2.1.length d, .slice u b.2.1.length t] ((c_l_eqBalloonS ar c.2.1 f d (cg.rd X 10 (by kernel_rfl) 11 (by kernel_rfl)) b.2.1 u t (cc.rd X 4 (by kernel_rfl) 5 (by kernel_rfl)) e3).mono ?_)
  rintro e_ P ⟨rfl, dt⟩
  have a4 := X.call0 dt
  refine ⟨_, rfl, ?_⟩
  refine wR 3 [(0, .slice n l.length m), (1, .slice k i.length j), (2, iv o), (8, .slice x b.1.length v), (9, .slice u b.2.1.length t), (10, iv b.2.2.1), (11, .bool b.2.2.2), (12, .slice B D.length z), (13, .slice C E.length A), (14, .slice h c.1.length g), (15, .slice f c.2.1.length d), (16, iv c.2.2.1), (17, .bool c.2.2.2), (67, .bool (!fu))] P ?_
  rcases gx_bif hm with ⟨bo, hm⟩ | ⟨bo, hm⟩
  ·refine wK 67 true bo (wR 9 [(0, .slice n l.length m), (1, .slice k i.length j), (2, iv o), (8, .slice x b.1.length v), (9, .slice u b.2.1.length t), (10, iv b.2.2.1), (11, .bool b.2.2.2), (12, .slice B D.length z), (13, .slice C E.length A), (14, .slice h c.1.length g), (15, .slice f c.2.1.length d), (16, iv c.2.2.1), (17, .bool c.2.2.2), (76, .bool true)] P (W_nil ?_))
   obtain rfl := Option.some.inj hm
   exact N_meet fun a ha => ⟨a4.pk [3, 4, 5, 6, 7, 8, 9, 10, 11], ha.s⟩
  refine wK 67 false bo (wR 5 [(0, .slice n l.length m), (1, .slice k i.length j), (2, iv o), (8, .slice x b.1.length v), (9, .slice u b.2.1.length t), (10, iv b.2.2.1), (11, .bool b.2.2.2), (12, .slice B D.length z), (13, .slice C E.length A), (14, .slice h c.1.length g), (15, .slice f c.2.1.length d), (16, iv c.2.2.1), (17, .bool c.2.2.2), (72, .bool (c.2.2.1 != b.2.2.1))] P ?_)
  rcases gx_bif hm with ⟨bp, hm⟩ | ⟨bp, hm⟩
  ·refine wK 72 true bp (wR 4 [(0, .slice n l.length m), (1, .slice k i.length j), (2, iv o), (8, .slice x b.1.length v), (9, .slice u b.2.1.length t), (10, iv b.2.2.1), (11, .bool b.2.2.2), (12, .slice B D.length z), (13, .slice C E.length A), (14, .slice h c.1.length g), (15, .slice f c.2.1.length d), (16, iv c.2.2.1), (17, .bool c.2.2.2), (76, .bool true)] P (W_nil ?_))
   obtain rfl := Option.some.inj hm
   exact N_meet fun a ha => ⟨a4.pk [3, 4, 5, 6, 7, 8, 9, 10, 11], ha.s⟩
  refine wK 72 false bp (wR 4 [(0, .slice n l.length m), (1, .slice k i.length j), (2, iv o), (8, .slice x b.1.length v), (9, .slice u b.2.1.length t), (10, iv b.2.2.1), (11, .bool b.2.2.2), (12, .slice B D.length z), (13, .slice C E.length A), (14, .slice h c.1.length g), (15, .slice f c.2.1.length d), (16, iv c.2.2.1), (17, .bool c.2.2.2), (76, .bool (!(c.2.2.2 == b.2.2.2)))] P (W_nil ?_))
  obtain rfl := Option.some.inj hm
  exact N_meet fun a ha => ⟨a4.pk [3, 4, 5, 6, 7, 8, 9, 10, 11], ha.s⟩
 intro f6 ct ⟨a5, eg⟩
 refine N_use eg ?_
 have hm := ej
 refine N_then ?_
 rcases gx_bif hm with ⟨bq, hm⟩ | ⟨bq, hm⟩
 ·refine gT bq (G_seq (G_region (wR 1 [(6, .bool false)] ct (W_nil (N_then (G_ret (N_then_ret ?_)))))))
  obtain rfl := Option.some.inj hm
  exact N_ret [.bool false] (rC RVs_nil) (⟨rfl, a5.pk []⟩)
 refine gF bq (G_skip (N_then (G_seq (G_seq (G_region (wR 2 [(0, .slice n l.length m), (1, .slice k i.length j), (2, iv o), (8, .slice x b.1.length v), (9, .slice u b.2.1.length t), (10, iv b.2.2.1), (11, .bool b.2.2.2), (12, .slice B D.length z), (13, .slice C E.length A), (14, .slice h c.1.length g), (15, .slice f c.2.1.length d), (16, iv c.2.2.1), (17, .bool c.2.2.2), (77, .slice B D.length z), (78, .slice n l.length m)] ct ?_))))))
 obtain ⟨da, e4, hm⟩ := gx_bind hm
 refine wC 15 #[.slice n l.length m] ((c_l_toIntS ct l n m (ah.mem0 a5) e4).mono ?_)
 rintro e_ f4 ⟨c8, c2, gb, rfl, en, du⟩
 have a6 := a5.call du
 refine ⟨_, rfl, ?_⟩
 obtain ⟨fv, e5, hm⟩ := gx_bind hm
 refine wC 18 #[.slice B D.length z, .slice c8 da.length c2] ((c_l_eqIntS f4 D B z (cd.rd a6 3 (by kernel_rfl)) da c8 c2 (en.rd a6 9 (by kernel_rfl)) e5).mono ?_)
 rintro e_ au ⟨rfl, dv⟩
 have a7 := a6.call0 dv
 refine ⟨_, rfl, ?_⟩
 refine wR 1 [(0, .slice n l.length m), (1, .slice k i.length j), (2, iv o), (8, .slice x b.1.length v), (9, .slice u b.2.1.length t), (10, iv b.2.2.1), (11, .bool b.2.2.2), (12, .slice B D.length z), (13, .slice C E.length A), (14, .slice h c.1.length g), (15, .slice f c.2.1.length d), (16, iv c.2.2.1), (17, .bool c.2.2.2), (81, .bool (!fv))] au (W_nil (N_then ?_))
 rcases gx_bif hm with ⟨br, hm⟩ | ⟨br, hm⟩
 ·refine gT br (G_seq (G_region (wR 1 [(6, .bool false)] au (W_nil (N_then (G_ret (N_then_ret ?_)))))))
  obtain rfl := Option.some.inj hm
  exact N_ret [.bool false] (rC RVs_nil) (⟨rfl, a7.pk []⟩)
 refine gF br (G_skip (N_then (G_seq (G_seq (G_region (wR 2 [(0, .slice n l.length m), (1, .slice k i.length j), (2, iv o), (8, .slice x b.1.length v), (9, .slice u b.2.1.length t), (10, iv b.2.2.1), (11, .bool b.2.2.2), (12, .slice B D.length z), (13, .slice C E.length A), (14, .slice h c.1.length g), (15, .slice f c.2.1.length d), (16, iv c.2.2.1), (17, .bool c.2.2.2), (82, .slice C E.length A), (83, .slice k i.length j)] au ?_))))))
 obtain ⟨db, e6, hm⟩ := gx_bind hm
 refine wC 16 #[.slice k i.length j] ((c_l_toBalloonS au i k j (O.mem0 a7) e6).mono ?_)
 rintro e_ f5 ⟨c9, c3, gc, gd, rfl, eo, dw⟩
 have a8 := a7.call dw
 refine ⟨_, rfl, ?_⟩
 obtain ⟨fw, e7, hm⟩ := gx_bind hm
 refine wC 19 #[.slice C E.length A, .slice c9 db.length c3] ((c_l_eqBalloonS f5 E C A (ce.rd a8 4 (by kernel_rfl) 5 (by kernel_rfl)) db c9 c3 (eo.rd a8 10 (by kernel_rfl) 11 (by kernel_rfl)) e7).mono ?_)
 rintro e_ Q ⟨rfl, dx⟩
 have Y := a8.call0 dx
 refine ⟨_, rfl, ?_⟩
 refine wR 1 [(0, .slice n l.length m), (1, .slice k i.length j), (2, iv o), (8, .slice x b.1.length v), (9, .slice u b.2.1.length t), (10, iv b.2.2.1), (11, .bool b.2.2.2), (12, .slice B D.length z), (13, .slice C E.length A), (14, .slice h c.1.length g), (15, .slice f c.2.1.length d), (16, iv c.2.2.1), (17, .bool c.2.2.2), (86, .bool (!fw))] Q (W_nil (N_then ?_))
 rcases gx_bif hm with ⟨bs, hm⟩ | ⟨bs, hm⟩
 ·refine gT bs (G_seq (G_region (wR 1 [(6, .bool false)] Q (W_nil (N_then (G_ret (N_then_ret ?_)))))))
  obtain rfl := Option.some.inj hm
  exact N_ret [.bool false] (rC RVs_nil) (⟨rfl, Y.pk []⟩)
 refine gF bs (G_skip (N_then (G_seq (G_region (wR 1 [(0, .slice n l.length m), (1, .slice k i.length j), (2, iv o), (8, .slice x b.1.length v), (9, .slice u b.2.1.length t), (10, iv b.2.2.1), (11, .bool b.2.2.2), (12, .slice B D.length z), (13, .slice C E.length A), (14, .slice h c.1.length g), (15, .slice f c.2.1.length d), (16, iv c.2.2.1), (17, .bool c.2.2.2), (18, iv 1)] Q (W_nil (N_then (G_seq (G_region (wR 2 [(0, .slice n l.length m), (1, .slice k i.length j), (2, iv o), (8, .slice x b.1.length v), (9, .slice u b.2.1.length t), (10, iv b.2.2.1), (11, .bool b.2.2.2), (13, .slice C E.length A), (14, .slice h c.1.length g), (15, .slice f c.2.1.length d), (16, iv c.2.2.1), (17, .bool c.2.2.2), (18, iv 1), (87, .slice B D.length z), (88, iv 1)] Q ?_))))))))))
 obtain ⟨L, e8, hm⟩ := gx_bind hm
 refine wC 24 #[.slice B D.length z, iv 1] ((c_l_markIntS Q D B z dg cd 1 (Y.hasPick [3]) (Y.nodupPick [3] (by kernel_rfl)) e8).mono ?_)
 rintro e_ cu ⟨ge, rfl, f9, c4, dy⟩
 have a9 := Y.callF' [3] [0, 1, 2, 4, 5, 6, 7, 8, 9, 10, 11] (by kernel_rfl) dy
 refine ⟨_, rfl, ?_⟩
 refine wX 87 (.slice B D.length z) (.slice B L.2.length z) (by first | rw [c4] | rw [c4]) (wR 1 [(0, .slice n l.length m), (1, .slice k i.length j), (2, iv o), (8, .slice x b.1.length v), (9, .slice u b.2.1.length t), (10, iv b.2.2.1), (11, .bool b.2.2.2), (13, .slice C E.length A), (14, .slice h c.1.length g), (15, .slice f c.2.1.length d), (16, iv c.2.2.1), (17, .bool c.2.2.2), (18, iv L.1)] cu (W_nil (N_then (G_seq (G_region (wR 2 [(0, .slice n l.length m), (1, .slice k i.length j), (2, iv o), (8, .slice x b.1.length v), (9, .slice u b.2.1.length t), (10, iv b.2.2.1), (11, .bool b.2.2.2), (14, .slice h c.1.length g), (15, .slice f c.2.1.length d), (16, iv c.2.2.1), (17, .bool c.2.2.2), (18, iv L.1), (90, .slice C E.length A), (91, iv L.1)] cu ?_))))))
 obtain ⟨cj, e9, hm⟩ := gx_bind hm
 refine wC 25 #[.slice C E.length A, iv L.1] ((c_l_markBalloonS cu E C A dh di ce L.1 (a9.hasPick [3, 4]) (a9.nodupPick [3, 4] (by kernel_rfl)) e9).mono ?_)
 rintro e_ R ⟨gf, gg, rfl, ga, c5, dz⟩
 have Z := a9.callF' [3, 4] [0, 1, 2, 5, 6, 7, 8, 9, 10, 11] (by kernel_rfl) dz
 refine ⟨_, rfl, ?_⟩
 refine wX 90 (.slice C E.length A) (.slice C cj.2.length A) (by first | rw [c5] | rw [c5]) (wR 1 [(0, .slice n l.length m), (1, .slice k i.length j), (2, iv o), (8, .slice x b.1.length v), (9, .slice u b.2.1.length t), (10, iv b.2.2.1), (11, .bool b.2.2.2), (14, .slice h c.1.length g), (15, .slice f c.2.1.length d), (16, iv c.2.2.1), (17, .bool c.2.2.2), (18, iv cj.1)] R (W_nil (N_then (G_seq (G_seq ?_)))))
 obtain ⟨fr, ep, ek⟩ := gx_bind hm
 refine G_meet (fun a w' => Mem [] w w' [dd, de, df, cm, cn, co] ∧ Sat Try.f10.ntmps [(0, .slice n l.length m), (1, .slice k i.length j), (2, iv o), (8, .slice x b.1.length v), (9, .slice u b.2.1.length t), (10, iv b.2.2.1), (11, .bool b.2.2.2), (14, .slice h c.1.length g), (15, .slice f c.2.1.length d), (116, .bool fr)] a) ?_ ?_
 ·have hm := ep
  refine G_region (wR 3 [(0, .slice n l.length m), (1, .slice k i.length j), (2, iv o), (8, .slice x b.1.length v), (9, .slice u b.2.1.length t), (10, iv b.2.2.1), (11, .bool b.2.2.2), (14, .slice h c.1.length g), (15, .slice f c.2.1.length d), (16, iv c.2.2.1), (17, .bool c.2.2.2), (95, .bool (decide (cj.1 < 0)))] R ?_)
  rcases gx_bif hm with ⟨bt, hm⟩ | ⟨bt, hm⟩
  ·refine wK 95 true bt (wR 21 [(0, .slice n l.length m), (1, .slice k i.length j), (2, iv o), (8, .slice x b.1.length v), (9, .slice u b.2.1.length t), (10, iv b.2.2.1), (11, .bool b.2.2.2), (14, .slice h c.1.length g), (15, .slice f c.2.1.length d), (116, .bool true)] R (W_nil ?_))
   obtain rfl := Option.some.inj hm
   exact N_meet fun a ha => ⟨Z.pk [0, 1, 2, 3, 4, 5], ha.s⟩
  refine wK 95 false bt (wR 2 [(0, .slice n l.length m), (1, .slice k i.length j), (2, iv o), (8, .slice x b.1.length v), (9, .slice u b.2.1.length t), (10, iv b.2.2.1), (11, .bool b.2.2.2), (14, .slice h c.1.length g), (15, .slice f c.2.1.length d), (16, iv c.2.2.1), (17, .bool c.2.2.2), (95, .bool false), (96, .slice h c.1.length g), (97, .slice x b.1.length v)] R ?_)
  obtain ⟨fx, fa, hm⟩ := gx_bind hm
  refine wC 18 #[.slice h c.1.length g, .slice x b.1.length v] ((c_l_eqIntS R c.1 h g (cf.rd Z 3 (by kernel_rfl)) b.1 x v (cb.rd Z 0 (by kernel_rfl)) fa).mono ?_)
  rintro e_ av ⟨rfl, d0⟩
  have aa := Z.call0 d0
  refine ⟨_, rfl, ?_⟩
  refine wR 3 [(0, .slice n l.length m), (1, .slice k i.length j), (2, iv o), (8, .slice x b.1.length v), (9, .slice u b.2.1.length t), (10, iv b.2.2.1), (11, .bool b.2.2.2), (14, .slice h c.1.length g), (15, .slice f c.2.1.length d), (16, iv c.2.2.1), (17, .bool c.2.2.2), (101, .bool (!fx))] av ?_
  rcases gx_bif hm with ⟨bu, hm⟩ | ⟨bu, hm⟩
  ·refine wK 101 true bu (wR 15 [(0, .slice n l.length m), (1, .slice k i.length j), (2, iv o), (8, .slice x b.1.length v), (9, .slice u b.2.1.length t), (10, iv b.2.2.1), (11, .bool b.2.2.2), (14, .slice h c.1.length g), (15, .slice f c.2.1.length d), (116, .bool true)] av (W_nil ?_))
   obtain rfl := Option.some.inj hm
   exact N_meet fun a ha => ⟨aa.pk [0, 1, 2, 3, 4, 5], ha.s⟩
  refine wK 101 false bu (wR 2 [(0, .slice n l.length m), (1, .slice k i.length j), (2, iv o), (8, .slice x b.1.length v), (9, .slice u b.2.1.length t), (10, iv b.2.2.1), (11, .bool b.2.2.2), (14, .slice h c.1.length g), (15, .slice f c.2.1.length d), (16, iv c.2.2.1), (17, .bool c.2.2.2), (101, .bool false), (102, .slice f c.2.1.length d), (103, .slice u b.2.1.length t)] av ?_)
  obtain ⟨fy, fb, hm⟩ := gx_bind hm
  refine wC 19 #[.slice f c.2.1.length d, .slice u b.2.1.length t] ((c_l_eqBalloonS av c.2.1 f d (cg.rd aa 4 (by kernel_rfl) 5 (by kernel_rfl)) b.2.1 u t (cc.rd aa 1 (by kernel_rfl) 2 (by kernel_rfl)) fb).mono ?_)
  rintro e_ S ⟨rfl, d1⟩
  have ba := aa.call0 d1
  refine ⟨_, rfl, ?_⟩
  refine wR 3 [(0, .slice n l.length m), (1, .slice k i.length j), (2, iv o), (8, .slice x b.1.length v), (9, .slice u b.2.1.length t), (10, iv b.2.2.1), (11, .bool b.2.2.2), (14, .slice h c.1.length g), (15, .slice f c.2.1.length d), (16, iv c.2.2.1), (17, .bool c.2.2.2), (107, .bool (!fy))] S ?_
  rcases gx_bif hm with ⟨bv, hm⟩ | ⟨bv, hm⟩
  ·refine wK 107 true bv (wR 9 [(0, .slice n l.length m), (1, .slice k i.length j), (2, iv o), (8, .slice x b.1.length v), (9, .slice u b.2.1.length t), (10, iv b.2.2.1), (11, .bool b.2.2.2), (14, .slice h c.1.length g), (15, .slice f c.2.1.length d), (116, .bool true)] S (W_nil ?_))
   obtain rfl := Option.some.inj hm
   exact N_meet fun a ha => ⟨ba.pk [0, 1, 2, 3, 4, 5], ha.s⟩
  refine wK 107 false bv (wR 5 [(0, .slice n l.length m), (1, .slice k i.length j), (2, iv o), (8, .slice x b.1.length v), (9, .slice u b.2.1.length t), (10, iv b.2.2.1), (11, .bool b.2.2.2), (14, .slice h c.1.length g), (15, .slice f c.2.1.length d), (17, .bool c.2.2.2), (112, .bool (c.2.2.1 != b.2.2.1))] S ?_)
  rcases gx_bif hm with ⟨bw, hm⟩ | ⟨bw, hm⟩
  ·refine wK 112 true bw (wR 4 [(0, .slice n l.length m), (1, .slice k i.length j), (2, iv o), (8, .slice x b.1.length v), (9, .slice u b.2.1.length t), (10, iv b.2.2.1), (11, .bool b.2.2.2), (14, .slice h c.1.length g), (15, .slice f c.2.1.length d), (116, .bool true)] S (W_nil ?_))
   obtain rfl := Option.some.inj hm
   exact N_meet fun a ha => ⟨ba.pk [0, 1, 2, 3, 4, 5], ha.s⟩
  refine wK 112 false bw (wR 4 [(0, .slice n l.length m), (1, .slice k i.length j), (2, iv o), (8, .slice x b.1.length v), (9, .slice u b.2.1.length t), (10, iv b.2.2.1), (11, .bool b.2.2.2), (14, .slice h c.1.length g), (15, .slice f c.2.1.length d), (116, .bool (!(c.2.2.2 == b.2.2.2)))] S (W_nil ?_))
  obtain rfl := Option.some.inj hm
  exact N_meet fun a ha => ⟨ba.pk [0, 1, 2, 3, 4, 5], ha.s⟩
 intro f7 aw ⟨ab, eh⟩
 refine N_use eh ?_
 have hm := ek
 refine N_then ?_
 rcases gx_bif hm with ⟨bx, hm⟩ | ⟨bx, hm⟩
 ·refine gT bx (G_seq (G_region (wR 1 [(6, .bool false)] aw (W_nil (N_then (G_ret (N_then_ret ?_)))))))
  obtain rfl := Option.some.inj hm
  exact N_ret [.bool false] (rC RVs_nil) (⟨rfl, ab.pk []⟩)
 refine gF bx (G_skip (N_then (G_seq (G_region (wR 1 [(0, .slice n l.length m), (1, .slice k i.length j), (2, iv o), (8, .slice x b.1.length v), (9, .slice u b.2.1.length t), (10, iv b.2.2.1), (11, .bool b.2.2.2), (14, .slice h c.1.length g), (15, .slice f c.2.1.length d), (19, iv 1)] aw (W_nil (N_then (G_seq (G_region (wR 2 [(0, .slice n l.length m), (1, .slice k i.length j), (2, iv o), (8, .slice x b.1.length v), (9, .slice u b.2.1.length t), (10, iv b.2.2.1), (11, .bool b.2.2.2), (14, .slice h c.1.length g), (15, .slice f c.2.1.length d), (19, iv 1), (117, .slice h c.1.length g), (118, iv 1)] aw ?_))))))))))
 obtain ⟨y, fc, hm⟩ := gx_bind hm
 refine wC 24 #[.slice h c.1.length g, iv 1] ((c_l_markIntS aw c.1 h g cm cf 1 (ab.hasPick [3]) (ab.nodupPick [3] (by kernel_rfl)) fc).mono ?_)
 rintro e_ cv ⟨f1, rfl, c6, ai, d2⟩
 have bb := ab.callF' [3] [0, 1, 2, 4, 5] (by kernel_rfl) d2
 refine ⟨_, rfl, ?_⟩
 refine wX 14 (.slice h c.1.length g) (.slice h y.2.length g) (by first | rw [ai] | rw [ai]) (wX 117 (.slice h c.1.length g) (.slice h y.2.length g) (by first | rw [ai] | rw [ai]) (wR 1 [(0, .slice n l.length m), (1, .slice k i.length j), (2, iv o), (8, .slice x b.1.length v), (9, .slice u b.2.1.length t), (10, iv b.2.2.1), (11, .bool b.2.2.2), (14, .slice h y.2.length g), (15, .slice f c.2.1.length d), (19, iv y.1)] cv (W_nil (N_then (G_seq (G_region (wR 2 [(0, .slice n l.length m), (1, .slice k i.length j), (2, iv o), (8, .slice x b.1.length v), (9, .slice u b.2.1.length t), (10, iv b.2.2.1), (11, .bool b.2.2.2), (14, .slice h y.2.length g), (15, .slice f c.2.1.length d), (19, iv y.1), (120, .slice f c.2.1.length d), (121, iv y.1)] cv ?_)))))))
 obtain ⟨q, fd, hm⟩ := gx_bind hm
 refine wC 25 #[.slice f c.2.1.length d, iv y.1] ((c_l_markBalloonS cv c.2.1 f d cn co cg y.1 (bb.hasPick [3, 4]) (bb.nodupPick [3, 4] (by kernel_rfl)) fd).mono ?_)
 rintro e_ ax ⟨f2, f3, rfl, c7, aj, d3⟩
 have cz := bb.callF' [3, 4] [0, 1, 2, 5] (by kernel_rfl) d3
 refine ⟨_, rfl, ?_⟩
 refine wX 15 (.slice f c.2.1.length d) (.slice f q.2.length d) (by first | rw [aj] | rw [aj]) (wX 120 (.slice f c.2.1.length d) (.slice f q.2.length d) (by first | rw [aj] | rw [aj]) (wR 1 [(0, .slice n l.length m), (1, .slice k i.length j), (2, iv o), (8, .slice x b.1.length v), (9, .slice u b.2.1.length t), (10, iv b.2.2.1), (11, .bool b.2.2.2), (14, .slice h y.2.length g), (15, .slice f q.2.length d), (19, iv q.1)] ax (W_nil (N_then (G_seq (G_region (wR 1 [(0, .slice n l.length m), (1, .slice k i.length j), (2, iv o), (8, .slice x b.1.length v), (9, .slice u b.2.1.length t), (10, iv b.2.2.1), (11, .bool b.2.2.2), (14, .slice h y.2.length g), (15, .slice f q.2.length d), (19, iv q.1), (20, iv 1)] ax (W_nil (N_then (G_seq (G_region (wR 2 [(0, .slice n l.length m), (1, .slice k i.length j), (2, iv o), (8, .slice x b.1.length v), (9, .slice u b.2.1.length t), (10, iv b.2.2.1), (11, .bool b.2.2.2), (14, .slice h y.2.length g), (15, .slice f q.2.length d), (19, iv q.1), (20, iv 1), (123, .slice h y.2.length g), (124, iv 1)] ax ?_))))))))))))
 obtain ⟨G, fe, hm⟩ := gx_bind hm
 refine wC 29 #[.slice h y.2.length g, iv 1] ((c_l_heldIntS ax y.2 h g (c6.rd cz 3 (by kernel_rfl)) 1 fe).mono ?_)
 rintro e_ T ⟨rfl, d4⟩
 have bc := cz.call0 d4
 refine ⟨_, rfl, ?_⟩
 refine wR 1 [(0, .slice n l.length m), (1, .slice k i.length j), (2, iv o), (8, .slice x b.1.length v), (9, .slice u b.2.1.length t), (10, iv b.2.2.1), (11, .bool b.2.2.2), (14, .slice h y.2.length g), (15, .slice f q.2.length d), (19, iv q.1), (20, iv G)] T (W_nil (N_then (G_seq (G_seq (G_region (wR 2 [(0, .slice n l.length m), (1, .slice k i.length j), (2, iv o), (8, .slice x b.1.length v), (9, .slice u b.2.1.length t), (10, iv b.2.2.1), (11, .bool b.2.2.2), (14, .slice h y.2.length g), (15, .slice f q.2.length d), (19, iv q.1), (20, iv G), (127, .bool (decide (G < 0)))] T (W_nil (N_then ?_))))))))
 rcases gx_bif hm with ⟨bz, hm⟩ | ⟨bz, hm⟩
 ·refine gT bz (G_seq (G_region (wR 1 [(6, .bool false)] T (W_nil (N_then (G_ret (N_then_ret ?_)))))))
  obtain rfl := Option.some.inj hm
  exact N_ret [.bool false] (rC RVs_nil) (⟨rfl, bc.pk []⟩)
 refine gF bz (G_skip (N_then (G_seq (G_region (wR 2 [(0, .slice n l.length m), (1, .slice k i.length j), (2, iv o), (8, .slice x b.1.length v), (9, .slice u b.2.1.length t), (10, iv b.2.2.1), (11, .bool b.2.2.2), (14, .slice h y.2.length g), (15, .slice f q.2.length d), (19, iv q.1), (20, iv G), (128, .slice f q.2.length d), (129, iv G)] T ?_)))))
 obtain ⟨an, ff, hm⟩ := gx_bind hm
 refine wC 26 #[.slice f q.2.length d, iv G] ((c_l_heldBalloonS T q.2 f d (c7.rd bc 4 (by kernel_rfl) 5 (by kernel_rfl)) G ff).mono ?_)
 rintro e_ I ⟨rfl, d5⟩
 have ac := bc.call0 d5
 refine ⟨_, rfl, ?_⟩
 refine wR 1 [(0, .slice n l.length m), (1, .slice k i.length j), (2, iv o), (8, .slice x b.1.length v), (9, .slice u b.2.1.length t), (10, iv b.2.2.1), (11, .bool b.2.2.2), (14, .slice h y.2.length g), (15, .slice f q.2.length d), (19, iv q.1), (20, iv an)] I (W_nil (N_then (G_seq (G_seq (G_region (wR 2 [(0, .slice n l.length m), (1, .slice k i.length j), (2, iv o), (8, .slice x b.1.length v), (9, .slice u b.2.1.length t), (10, iv b.2.2.1), (11, .bool b.2.2.2), (14, .slice h y.2.length g), (15, .slice f q.2.length d), (19, iv q.1), (20, iv an), (132, .bool (decide (an < 0)))] I (W_nil (N_then ?_))))))))
 rcases gx_bif hm with ⟨b0, hm⟩ | ⟨b0, hm⟩
 ·refine gT b0 (G_seq (G_region (wR 1 [(6, .bool false)] I (W_nil (N_then (G_ret (N_then_ret ?_)))))))
  obtain rfl := Option.some.inj hm
  exact N_ret [.bool false] (rC RVs_nil) (⟨rfl, ac.pk []⟩)
 refine gF b0 (G_skip (N_then (G_seq (G_seq (G_region (wR 3 [(0, .slice n l.length m), (1, .slice k i.length j), (2, iv o), (8, .slice x b.1.length v), (9, .slice u b.2.1.length t), (10, iv b.2.2.1), (11, .bool b.2.2.2), (14, .slice h y.2.length g), (15, .slice f q.2.length d), (19, iv q.1), (135, .bool (an != q.1))] I (W_nil (N_then ?_))))))))
 rcases gx_bif hm with ⟨b1, hm⟩ | ⟨b1, hm⟩
 ·refine gT b1 (G_seq (G_region (wR 1 [(6, .bool false)] I (W_nil (N_then (G_ret (N_then_ret ?_)))))))
  obtain rfl := Option.some.inj hm
  exact N_ret [.bool false] (rC RVs_nil) (⟨rfl, ac.pk []⟩)
 refine gF b1 (G_skip (N_then (G_seq (G_region (wR 1 [(1, .slice k i.length j), (2, iv o), (8, .slice x b.1.length v), (9, .slice u b.2.1.length t), (10, iv b.2.2.1), (11, .bool b.2.2.2), (14, .slice h y.2.length g), (15, .slice f q.2.length d), (19, iv q.1), (137, .slice n l.length m)] I ?_)))))
 obtain ⟨ao, fg, hm⟩ := gx_bind hm
 refine wC 15 #[.slice n l.length m] ((c_l_toIntS I l n m (ah.mem0 ac) fg).mono ?_)
 rintro e_ dj ⟨ak, ae, gh, rfl, er, d6⟩
 have c0 := ac.call d6
 refine ⟨_, rfl, ?_⟩
 refine wR 1 [(2, iv o), (8, .slice x b.1.length v), (9, .slice u b.2.1.length t), (10, iv b.2.2.1), (11, .bool b.2.2.2), (14, .slice h y.2.length g), (15, .slice f q.2.length d), (19, iv q.1), (138, .slice ak ao.length ae), (139, .slice k i.length j)] dj ?_
 obtain ⟨ck, fh, hm⟩ := gx_bind hm
 refine wC 16 #[.slice k i.length j] ((c_l_toBalloonS dj i k j (O.mem0 c0) fh).mono ?_)
 rintro e_ dk ⟨ch, bl, gi, gj, rfl, es, d7⟩
 have bd := c0.call d7
 refine ⟨_, rfl, ?_⟩
 refine wR 1 [(8, .slice x b.1.length v), (9, .slice u b.2.1.length t), (10, iv b.2.2.1), (11, .bool b.2.2.2), (14, .slice h y.2.length g), (15, .slice f q.2.length d), (19, iv q.1), (138, .slice ak ao.length ae), (140, .slice ch ck.length bl), (141, iv o)] dk ?_
 obtain ⟨F, fi, hm⟩ := gx_bind hm
 refine wC 37 #[.slice ak ao.length ae, .slice ch ck.length bl, iv o] ((c_i_SettleGuest dk ao ak ae (er.rd bd 6 (by kernel_rfl)) ck ch bl (es.rd bd 7 (by kernel_rfl) 8 (by kernel_rfl)) o fi).mono ?_)
 rintro e_ cw ⟨al, af, gk, K, J, gl, gm, rfl, et, eu, d8⟩
 have be := bd.call d8
 refine ⟨_, rfl, ?_⟩
 refine wR 9 [(8, .slice x b.1.length v), (9, .slice u b.2.1.length t), (10, iv b.2.2.1), (11, .bool b.2.2.2), (14, .slice h y.2.length g), (15, .slice f q.2.length d), (19, iv q.1), (21, .slice al F.1.length af), (22, .slice K F.2.1.length J), (23, iv F.2.2.1), (24, .bool F.2.2.2)] cw (W_nil (N_then (G_seq (G_seq ?_))))
 obtain ⟨fs, ev, el⟩ := gx_bind hm
 refine G_meet (fun a w' => Mem [] w w' [f1, f2, f3] ∧ Sat Try.f10.ntmps [(14, .slice h y.2.length g), (15, .slice f q.2.length d), (19, iv q.1), (166, .bool fs)] a) ?_ ?_
 ·have hm := ev
  refine G_region (wR 2 [(9, .slice u b.2.1.length t), (10, iv b.2.2.1), (11, .bool b.2.2.2), (14, .slice h y.2.length g), (15, .slice f q.2.length d), (19, iv q.1), (22, .slice K F.2.1.length J), (23, iv F.2.2.1), (24, .bool F.2.2.2), (147, .slice al F.1.length af), (148, .slice x b.1.length v)] cw ?_)
  obtain ⟨fz, fj, hm⟩ := gx_bind hm
  refine wC 18 #[.slice al F.1.length af, .slice x b.1.length v] ((c_l_eqIntS cw F.1 al af (et.rd be 9 (by kernel_rfl)) b.1 x v (cb.rd be 0 (by kernel_rfl)) fj).mono ?_)
  rintro e_ ay ⟨rfl, d9⟩
  have ad := be.call0 d9
  refine ⟨_, rfl, ?_⟩
  refine wR 2 [(9, .slice u b.2.1.length t), (10, iv b.2.2.1), (11, .bool b.2.2.2), (14, .slice h y.2.length g), (15, .slice f q.2.length d), (19, iv q.1), (22, .slice K F.2.1.length J), (23, iv F.2.2.1), (24, .bool F.2.2.2), (151, .bool (!fz))] ay ?_
  rcases gx_bif hm with ⟨b2, hm⟩ | ⟨b2, hm⟩
  ·refine wK 151 true b2 (wR 15 [(14, .slice h y.2.length g), (15, .slice f q.2.length d), (19, iv q.1), (166, .bool true)] ay (W_nil ?_))
   obtain rfl := Option.some.inj hm
   exact N_meet fun a ha => ⟨ad.pk [3, 4, 5], ha.s⟩
  refine wK 151 false b2 (wR 2 [(10, iv b.2.2.1), (11, .bool b.2.2.2), (14, .slice h y.2.length g), (15, .slice f q.2.length d), (19, iv q.1), (23, iv F.2.2.1), (24, .bool F.2.2.2), (151, .bool false), (152, .slice K F.2.1.length J), (153, .slice u b.2.1.length t)] ay ?_)
  obtain ⟨f0, fk, hm⟩ := gx_bind hm
  refine wC 19 #[.slice K F.2.1.length J, .slice u b.2.1.length t] ((c_l_eqBalloonS ay F.2.1 K J (eu.rd ad 10 (by kernel_rfl) 11 (by kernel_rfl)) b.2.1 u t (cc.rd ad 1 (by kernel_rfl) 2 (by kernel_rfl)) fk).mono ?_)
  rintro e_ U ⟨rfl, ea⟩
  have bf := ad.call0 ea
  refine ⟨_, rfl, ?_⟩
  refine wR 3 [(10, iv b.2.2.1), (11, .bool b.2.2.2), (14, .slice h y.2.length g), (15, .slice f q.2.length d), (19, iv q.1), (23, iv F.2.2.1), (24, .bool F.2.2.2), (157, .bool (!f0))] U ?_
  rcases gx_bif hm with ⟨b3, hm⟩ | ⟨b3, hm⟩
  ·refine wK 157 true b3 (wR 9 [(14, .slice h y.2.length g), (15, .slice f q.2.length d), (19, iv q.1), (166, .bool true)] U (W_nil ?_))
   obtain rfl := Option.some.inj hm
   exact N_meet fun a ha => ⟨bf.pk [3, 4, 5], ha.s⟩
  refine wK 157 false b3 (wR 5 [(11, .bool b.2.2.2), (14, .slice h y.2.length g), (15, .slice f q.2.length d), (19, iv q.1), (24, .bool F.2.2.2), (162, .bool (F.2.2.1 != b.2.2.1))] U ?_)
  rcases gx_bif hm with ⟨b4, hm⟩ | ⟨b4, hm⟩
  ·refine wK 162 true b4 (wR 4 [(14, .slice h y.2.length g), (15, .slice f q.2.length d), (19, iv q.1), (166, .bool true)] U (W_nil ?_))
   obtain rfl := Option.some.inj hm
   exact N_meet fun a ha => ⟨bf.pk [3, 4, 5], ha.s⟩
  refine wK 162 false b4 (wR 4 [(14, .slice h y.2.length g), (15, .slice f q.2.length d), (19, iv q.1), (166, .bool (!(F.2.2.2 == b.2.2.2)))] U (W_nil ?_))
  obtain rfl := Option.some.inj hm
  exact N_meet fun a ha => ⟨bf.pk [3, 4, 5], ha.s⟩
 intro f8 az ⟨bg, ei⟩
 refine N_use ei ?_
 have hm := el
 refine N_then ?_
 rcases gx_bif hm with ⟨b5, hm⟩ | ⟨b5, hm⟩
 ·refine gT b5 (G_seq (G_region (wR 1 [(6, .bool false)] az (W_nil (N_then (G_ret (N_then_ret ?_)))))))
  obtain rfl := Option.some.inj hm
  exact N_ret [.bool false] (rC RVs_nil) (⟨rfl, bg.pk []⟩)
 refine gF b5 (G_skip (N_then (G_seq (G_region (wR 1 [(14, .slice h y.2.length g), (15, .slice f q.2.length d), (19, iv q.1), (20, iv 1)] az (W_nil (N_then (G_seq (G_region (wR 2 [(15, .slice f q.2.length d), (19, iv q.1), (20, iv 1), (167, .slice h y.2.length g), (168, iv 1)] az ?_))))))))))
 obtain ⟨H, fl, hm⟩ := gx_bind hm
 refine wC 29 #[.slice h y.2.length g, iv 1] ((c_l_heldIntS az y.2 h g (c6.rd bg 0 (by kernel_rfl)) 1 fl).mono ?_)
 rintro e_ V ⟨rfl, eb⟩
 have bh := bg.call0 eb
 refine ⟨_, rfl, ?_⟩
 refine wR 1 [(15, .slice f q.2.length d), (19, iv q.1), (20, iv H)] V (W_nil (N_then (G_seq (G_seq (G_region (wR 2 [(15, .slice f q.2.length d), (19, iv q.1), (20, iv H), (171, .bool (decide (H < 0)))] V (W_nil (N_then ?_))))))))
 rcases gx_bif hm with ⟨b6, hm⟩ | ⟨b6, hm⟩
 ·refine gT b6 (G_seq (G_region (wR 1 [(6, .bool false)] V (W_nil (N_then (G_ret (N_then_ret ?_)))))))
  obtain rfl := Option.some.inj hm
  exact N_ret [.bool false] (rC RVs_nil) (⟨rfl, bh.pk []⟩)
 refine gF b6 (G_skip (N_then (G_seq (G_region (wR 2 [(19, iv q.1), (20, iv H), (172, .slice f q.2.length d), (173, iv H)] V ?_)))))
 obtain ⟨ap, fm, hm⟩ := gx_bind hm
 refine wC 26 #[.slice f q.2.length d, iv H] ((c_l_heldBalloonS V q.2 f d (c7.rd bh 1 (by kernel_rfl) 2 (by kernel_rfl)) H fm).mono ?_)
 rintro e_ N ⟨rfl, ec⟩
 have bi := bh.call0 ec
 refine ⟨_, rfl, ?_⟩
 refine wR 1 [(19, iv q.1), (20, iv ap)] N (W_nil (N_then (G_seq (G_seq (G_region (wR 2 [(19, iv q.1), (20, iv ap), (176, .bool (decide (ap < 0)))] N (W_nil (N_then ?_))))))))
 rcases gx_bif hm with ⟨b7, hm⟩ | ⟨b7, hm⟩
 ·refine gT b7 (G_seq (G_region (wR 1 [(6, .bool false)] N (W_nil (N_then (G_ret (N_then_ret ?_)))))))
  obtain rfl := Option.some.inj hm
  exact N_ret [.bool false] (rC RVs_nil) (⟨rfl, bi.pk []⟩)
 refine gF b7 (G_skip (N_then (G_seq (G_seq (G_region (wR 3 [(179, .bool (ap != q.1))] N (W_nil (N_then ?_))))))))
 rcases gx_bif hm with ⟨b8, hm⟩ | ⟨b8, hm⟩
 ·refine gT b8 (G_seq (G_region (wR 1 [(6, .bool false)] N (W_nil (N_then (G_ret (N_then_ret ?_)))))))
  obtain rfl := Option.some.inj hm
  exact N_ret [.bool false] (rC RVs_nil) (⟨rfl, bi.pk []⟩)
 refine gF b8 (G_skip (N_then (G_seq (G_region (wR 1 [(6, .bool true)] N (W_nil (N_then (G_ret ?_))))))))
 obtain rfl := Option.some.inj hm
 exact N_ret [.bool true] (rC RVs_nil) (⟨rfl, bi.pk []⟩)
theorem c_l_rBig (w : World) (a : List Int) (c : Option Addr) (b : Nat) (d : rdS Gx.encU8 w a c b) {r : Bool} (hm : M.l_rBig a = some r) :
  Calls Try.prog 38 #[.slice c a.length b] w fun e w' => e = .returned (.bool r) ∧ Mem [] w w' [] := by
 unfold M.l_rBig at hm
 refine cE Try.func38 ?_
 have M0 := Mem.refl [] w
 refine G_seq (G_region (wR 1 [(0, .slice c a.length b)] w (W_nil (N_then (G_seq (G_region (wR 4 [(2, .bool (decide ((a.length : Int) > 65536)))] w (W_nil (N_then (G_ret ?_))))))))))
 obtain rfl := Option.some.inj hm
 exact N_ret [.bool (decide ((a.length : Int) > 65536))] (rC RVs_nil) (⟨rfl, M0.pk []⟩)
theorem c_s_l1Cur_next (w : World) (b : l1Cur) (d : Option Addr) (g : Nat) (v : rdS Gx.encU8 w b.code d g) (c : Nat) (hA : ∀ q ∈ List.flatten [[(c, .cells ⟨[.slice d b.code.length g, iv b.at_, .int .u64 b.seed]⟩ 78 (0, 0))]], w.heap[q.1]? = some q.2) (hN : (idsOf [[(c, .cells ⟨[.slice d b.code.length g, iv b.at_, .int .u64 b.seed]⟩ 78 (0, 0))]]).Nodup) (x : apartX (idsOf [[(c, .cells ⟨[.slice d b.code.length g, iv b.at_, .int .u64 b.seed]⟩ 78 (0, 0))]]) b.code d) {r : Int × Int × Int} (hm : M.s_l1Cur_next b = some r) :
  Calls Try.prog 90 #[pB c 0] w fun e w' => e = .returned (iv r.1) ∧ Mem (idsOf [[(c, .cells ⟨[.slice d b.code.length g, iv b.at_, .int .u64 b.seed]⟩ 78 (0, 0))]]) w w' [[(c, .cells ⟨[.slice d b.code.length g, iv r.2.1, .int .u64 r.2.2]⟩ 78 (0, 0))]] := by
 unfold M.s_l1Cur_next at hm
 refine cE Try.func90 ?_
 have M0 := Mem.start' w [[(c, .cells ⟨[.slice d b.code.length g, iv b.at_, .int .u64 b.seed]⟩ 78 (0, 0))]] hA hN
 refine G_seq (G_region (wR 1 [(0, pB c 0)] w (W_nil (N_then (G_seq (G_region (wR 1 [(0, pB c 0), (3, iv 0)] w (W_nil (N_then (G_seq (G_seq (G_quiet (by kernel_rfl) (by kernel_rfl) M0 (zR [pB c 0, pB c 0, pB c 1] [(0, pB c 0), (3, iv 0), (6, pB c 1)] (zV (iv b.at_) (fun w_ M_ => (eL false 1 1 (M_.blk 0 rfl))) (zR [pB c 0, pB c 0, pB c 0] [(0, pB c 0), (3, iv 0), (7, iv b.at_), (10, pB c 0)] ?_)))))))))))))))
 refine zV (.slice d b.code.length g) (fun w_ M_ => (eL false 1 0 (M_.blk 0 rfl))) (zR [iv (b.code.length : Int), .bool (decide (b.at_ < (b.code.length : Int)))] [(0, pB c 0), (3, iv 0), (13, .bool (decide (b.at_ < (b.code.length : Int))))] (Z_end fun F o => (N_then ?_)))
 obtain ⟨f, D, C⟩ := gx_bind hm
 refine G_meet (fun a w' => Mem (idsOf [[(c, .cells ⟨[.slice d b.code.length g, iv b.at_, .int .u64 b.seed]⟩ 78 (0, 0))]]) w w' [[(c, .cells ⟨[.slice d b.code.length g, iv b.at_, .int .u64 b.seed]⟩ 78 (0, 0))]] ∧ Sat Try.f90.ntmps [(0, pB c 0), (3, iv f)] a) ?_ ?_
 ·have hm := D
  rcases gx_bif hm with ⟨k, hm⟩ | ⟨k, hm⟩
  ·refine gT k (G_quiet (by kernel_rfl) (by kernel_rfl) o (zR [pB c 0, pB c 0, pB c 0] [(0, pB c 0), (3, iv 0), (16, pB c 0)] (zV (.slice d b.code.length g) (fun w_ M_ => (eL false 1 0 (M_.blk 0 rfl))) (zR [pB c 0, pB c 0, pB c 1] [(0, pB c 0), (3, iv 0), (17, .slice d b.code.length g), (20, pB c 1)] (zV (iv b.at_) (fun w_ M_ => (eL false 1 1 (M_.blk 0 rfl))) ?_)))))
   obtain ⟨i, y, hm⟩ := gx_bind hm
   refine zV (elemP d (b.at_.toNat * 1)) (fun w_ M_ => (eI (v.memX x M_) rfl y)) (zV (.int .u8 i) (fun w_ M_ => (eE false 1 0 (b.at_.toNat * 1) (v.memX x M_) y)) (zR [iv (w64 i), iv (w64 i)] [(0, pB c 0), (3, iv (w64 i))] (Z_end fun G z => ?_)))
   obtain rfl := Option.some.inj hm
   exact N_meet fun a ha => ⟨z.pk [0], ha.s⟩
  refine gF k (G_skip ?_)
  obtain rfl := Option.some.inj hm
  exact N_meet fun a ha => ⟨o.pk [0], ha.s⟩
 intro E m ⟨t, B⟩
 refine N_use B ?_
 have hm := C
 refine N_then (G_seq (G_region (wR 3 [(0, pB c 0), (3, iv f), (25, pB c 0), (27, pB c 1)] m (wV (iv b.at_) m (eL false 1 1 (t.blk 0 rfl)) (wR 3 [(0, pB c 0), (3, iv f), (29, iv (w64 (b.at_ + 1))), (31, pB c 1)] m (wS false 1 1 (iv (w64 (b.at_ + 1))) 0 [.slice d b.code.length g, iv (w64 (b.at_ + 1)), .int .u64 b.seed] t rfl ?_))))))
 intro n u
 refine W_nil (N_then (G_seq (G_region (wR 4 [(0, pB c 0), (3, iv f), (32, pB c 0), (35, pB c 2)] n (wV (.int .u64 b.seed) n (eL false 1 2 (u.blk 0 rfl)) (wR 7 [(0, pB c 0), (3, iv f), (41, .int .u64 (IntKind.u64.wrap ((IntKind.u64.wrap ((IntKind.u64.wrap (b.seed * 6364136223846793005)) + (IntKind.u64.wrap f))) + 843843))), (43, pB c 2)] n (wS false 1 2 (.int .u64 (IntKind.u64.wrap ((IntKind.u64.wrap ((IntKind.u64.wrap (b.seed * 6364136223846793005)) + (IntKind.u64.wrap f))) + 843843))) 0 [.slice d b.code.length g, iv (w64 (b.at_ + 1)), .int .u64 (IntKind.u64.wrap ((IntKind.u64.wrap ((IntKind.u64.wrap (b.seed * 6364136223846793005)) + (IntKind.u64.wrap f))) + 843843))] u rfl ?_)))))))
 intro H A
 refine W_nil (N_then (G_seq (G_seq (G_quiet (by kernel_rfl) (by kernel_rfl) A (zR [pB c 0, pB c 0, pB c 1] [(0, pB c 0), (3, iv f), (46, pB c 1)] (zV (iv (w64 (b.at_ + 1))) (fun w_ M_ => (eL false 1 1 (M_.blk 0 rfl))) (zR [pB c 0, pB c 0, pB c 0] [(0, pB c 0), (3, iv f), (47, iv (w64 (b.at_ + 1))), (50, pB c 0)] (zV (.slice d b.code.length g) (fun w_ M_ => (eL false 1 0 (M_.blk 0 rfl))) (zR [iv (b.code.length : Int), .bool (decide ((w64 (b.at_ + 1)) ≤ (b.code.length : Int)))] [(0, pB c 0), (3, iv f), (53, .bool (decide ((w64 (b.at_ + 1)) ≤ (b.code.length : Int))))] (Z_end fun h j => (N_then ?_)))))))))))
 rcases gx_bif hm with ⟨l, hm⟩ | ⟨l, hm⟩
 ·refine gT l (G_seq (G_region (wR 2 [(2, iv f)] h (W_nil (N_then (G_ret (N_then_ret ?_)))))))
  obtain rfl := Option.some.inj hm
  exact N_ret [iv f] (rC RVs_nil) (⟨rfl, j.pk [0]⟩)
 refine gF l (G_skip (N_then (G_seq (G_region (wR 3 [(57, pB c 2)] h (wV (.int .u64 (IntKind.u64.wrap ((IntKind.u64.wrap ((IntKind.u64.wrap (b.seed * 6364136223846793005)) + (IntKind.u64.wrap f))) + 843843))) h (eL false 1 2 (j.blk 0 rfl)) (wR 4 [(2, iv (w64 (gxAnd .u64 ((IntKind.u64.wrap ((IntKind.u64.wrap ((IntKind.u64.wrap (b.seed * 6364136223846793005)) + (IntKind.u64.wrap f))) + 843843)).fdiv (2 ^ 40)) 255)))] h (W_nil (N_then (G_ret ?_))))))))))
 obtain rfl := Option.some.inj hm
 exact N_ret [iv (w64 (gxAnd .u64 ((IntKind.u64.wrap ((IntKind.u64.wrap ((IntKind.u64.wrap (b.seed * 6364136223846793005)) + (IntKind.u64.wrap f))) + 843843)).fdiv (2 ^ 40)) 255))] (rC RVs_nil) (⟨rfl, j.pk [0]⟩)
theorem c_s_l1Cur_pick (w : World) (b : l1Cur) (f : Option Addr) (g : Nat) (k : rdS Gx.encU8 w b.code f g) (c : Nat) (d : Int) (hA : ∀ q ∈ List.flatten [[(c, .cells ⟨[.slice f b.code.length g, iv b.at_, .int .u64 b.seed]⟩ 78 (0, 0))]], w.heap[q.1]? = some q.2) (hN : (idsOf [[(c, .cells ⟨[.slice f b.code.length g, iv b.at_, .int .u64 b.seed]⟩ 78 (0, 0))]]).Nodup) (l : apartX (idsOf [[(c, .cells ⟨[.slice f b.code.length g, iv b.at_, .int .u64 b.seed]⟩ 78 (0, 0))]]) b.code f) {r : Int × Int × Int} (hm : M.s_l1Cur_pick b d = some r) :
  Calls Try.prog 76 #[pB c 0, iv d] w fun e w' => e = .returned (iv r.1) ∧ Mem (idsOf [[(c, .cells ⟨[.slice f b.code.length g, iv b.at_, .int .u64 b.seed]⟩ 78 (0, 0))]]) w w' [[(c, .cells ⟨[.slice f b.code.length g, iv r.2.1, .int .u64 r.2.2]⟩ 78 (0, 0))]] := by
 unfold M.s_l1Cur_pick at hm
 refine cE Try.func76 ?_
 have M0 := Mem.start' w [[(c, .cells ⟨[.slice f b.code.length g, iv b.at_, .int .u64 b.seed]⟩ 78 (0, 0))]] hA hN
 refine G_seq (G_region (wR 1 [(0, pB c 0), (1, iv d)] w (W_nil (N_then (G_seq (G_seq (G_region (wR 2 [(0, pB c 0), (1, iv d), (7, .bool (decide (d ≤ 1)))] w (W_nil (N_then ?_))))))))))
 rcases gx_bif hm with ⟨o, hm⟩ | ⟨o, hm⟩
 ·refine gT o (G_seq (G_region (wR 1 [(4, iv 0)] w (W_nil (N_then (G_ret (N_then_ret ?_)))))))
  obtain rfl := Option.some.inj hm
  exact N_ret [iv 0] (rC RVs_nil) (⟨rfl, M0.pk [0]⟩)
 refine gF o (G_skip (N_then (G_seq (G_region (wR 1 [(0, pB c 0), (1, iv d), (8, pB c 0)] w ?_)))))
 obtain ⟨h, E, hm⟩ := gx_bind hm
 refine wC 90 #[pB c 0] ((c_s_l1Cur_next w b f g (k.memX l M0) c (M0.hasPick [0]) (M0.nodupPick [0] (by kernel_rfl)) (apartX.old k l M0 [0]) E).mono ?_)
 rintro e_ n ⟨rfl, v⟩
 have i := M0.callF' [0] [] (by kernel_rfl) v
 refine ⟨_, rfl, ?_⟩
 refine wR 1 [(0, pB c 0), (1, iv d), (5, iv h.1)] n (W_nil (N_then (G_seq (G_seq (G_region (wR 2 [(0, pB c 0), (1, iv d), (5, iv h.1), (11, .bool (decide (d > 200)))] n (W_nil (N_then ?_))))))))
 obtain ⟨j, C, B⟩ := gx_bind hm
 refine G_meet (fun a w' => Mem (idsOf [[(c, .cells ⟨[.slice f b.code.length g, iv b.at_, .int .u64 b.seed]⟩ 78 (0, 0))]]) w w' [[(c, .cells ⟨[.slice f b.code.length g, iv j.2.1, .int .u64 j.2.2]⟩ 78 (0, 0))]] ∧ Sat Try.f76.ntmps [(1, iv d), (5, iv j.1)] a) ?_ ?_
 ·have hm := C
  rcases gx_bif hm with ⟨t, hm⟩ | ⟨t, hm⟩
  ·refine gT t (G_region (wR 3 [(1, iv d), (5, iv h.1), (13, iv (w64 (h.1 * 256))), (14, pB c 0)] n ?_))
   obtain ⟨G, F, hm⟩ := gx_bind hm
   refine wC 90 #[pB c 0] ((c_s_l1Cur_next n (⟨b.code, h.2.1, h.2.2⟩ : l1Cur) f g (k.memX l i) c (i.hasPick [0]) (i.nodupPick [0] (by kernel_rfl)) (apartX.old k l i [0]) F).mono ?_)
   rintro e_ H ⟨rfl, x⟩
   have y := i.callF' [0] [] (by kernel_rfl) x
   refine ⟨_, rfl, ?_⟩
   refine wR 2 [(1, iv d), (5, iv (w64 ((w64 (h.1 * 256)) + G.1)))] H (W_nil ?_)
   obtain rfl := Option.some.inj hm
   exact N_meet fun a ha => ⟨y.pk [0], ha.s⟩
  refine gF t (G_skip ?_)
  obtain rfl := Option.some.inj hm
  exact N_meet fun a ha => ⟨i.pk [0], ha.s⟩
 intro I u ⟨z, A⟩
 refine N_use A ?_
 have hm := B
 refine N_then (G_seq (G_region (wR 2 [(17, iv j.1), (18, iv d)] u ?_)))
 obtain ⟨m, D, hm⟩ := gx_bind hm
 refine wV (iv m) u (E_rem _ _ _ _ j.1 d m rfl (by kernel_rfl) (by kernel_rfl) D) (wR 1 [(4, iv m)] u (W_nil (N_then (G_ret ?_))))
 obtain rfl := Option.some.inj hm
 exact N_ret [iv m] (rC RVs_nil) (⟨rfl, z.pk [0]⟩)
theorem c_s_l1Cur_among (w : World) (a : l1Cur) (c : Option Addr) (d : Nat) (l : rdS Gx.encU8 w a.code c d) (b : Nat) (f : List Int) (g : Option Addr) (h : Nat) (m : rdS Gx.encI w f g h) (hA : ∀ q ∈ List.flatten [[(b, .cells ⟨[.slice c a.code.length d, iv a.at_, .int .u64 a.seed]⟩ 78 (0, 0))]], w.heap[q.1]? = some q.2) (hN : (idsOf [[(b, .cells ⟨[.slice c a.code.length d, iv a.at_, .int .u64 a.seed]⟩ 78 (0, 0))]]).Nodup) (n : apartX (idsOf [[(b, .cells ⟨[.slice c a.code.length d, iv a.at_, .int .u64 a.seed]⟩ 78 (0, 0))]]) a.code c) (o : apartX (idsOf [[(b, .cells ⟨[.slice c a.code.length d, iv a.at_, .int .u64 a.seed]⟩ 78 (0, 0))]]) f g) {r : Int × Int × Int} (hm : M.s_l1Cur_among a f = some r) :
  Calls Try.prog 75 #[pB b 0, .slice g f.length h] w fun e w' => e = .returned (iv r.1) ∧ Mem (idsOf [[(b, .cells ⟨[.slice c a.code.length d, iv a.at_, .int .u64 a.seed]⟩ 78 (0, 0))]]) w w' [[(b, .cells ⟨[.slice c a.code.length d, iv r.2.1, .int .u64 r.2.2]⟩ 78 (0, 0))]] := by
 unfold M.s_l1Cur_among at hm
 refine cE Try.func75 ?_
 have M0 := Mem.start' w [[(b, .cells ⟨[.slice c a.code.length d, iv a.at_, .int .u64 a.seed]⟩ 78 (0, 0))]] hA hN
 refine G_seq (G_region (wR 1 [(0, pB b 0), (1, .slice g f.length h)] w (W_nil (N_then (G_seq (G_region (wR 4 [(5, .slice g f.length h), (6, pB b 0), (8, iv (f.length : Int))] w ?_)))))))
 obtain ⟨u, x, hm⟩ := gx_bind hm
 refine wC 76 #[pB b 0, iv (f.length : Int)] ((c_s_l1Cur_pick w a c d (l.memX n M0) b (f.length : Int) (M0.hasPick [0]) (M0.nodupPick [0] (by kernel_rfl)) (apartX.old l n M0 [0]) x).mono ?_)
 rintro e_ j ⟨rfl, v⟩
 have i := M0.callF' [0] [] (by kernel_rfl) v
 refine ⟨_, rfl, ?_⟩
 obtain ⟨k, t, hm⟩ := gx_bind hm
 refine wV (elemP g (u.1.toNat * 1)) j (eI (m.memX o i) rfl t) (wV (iv k) j (eE false 1 0 (u.1.toNat * 1) (m.memX o i) t) (wR 1 [(4, iv k)] j (W_nil (N_then (G_ret ?_)))))
 obtain rfl := Option.some.inj hm
 exact N_ret [iv k] (rC RVs_nil) (⟨rfl, i.pk [0]⟩)
theorem c_s_l1Cur_owners (w : World) (c : l1Cur) (d : Option Addr) (f : Nat) (l : rdS Gx.encU8 w c.code d f) (b : Nat) (hA : ∀ q ∈ List.flatten [[(b, .cells ⟨[.slice d c.code.length f, iv c.at_, .int .u64 c.seed]⟩ 78 (0, 0))]], w.heap[q.1]? = some q.2) (hN : (idsOf [[(b, .cells ⟨[.slice d c.code.length f, iv c.at_, .int .u64 c.seed]⟩ 78 (0, 0))]]).Nodup) (m : apartX (idsOf [[(b, .cells ⟨[.slice d c.code.length f, iv c.at_, .int .u64 c.seed]⟩ 78 (0, 0))]]) c.code d) {r : (List Int) × Int × Int} (hm : M.s_l1Cur_owners c = some r) :
  Calls Try.prog 72 #[pB b 0] w fun e w' => ∃ (a7 : Option Addr) (au : Nat) (bd : Seg), e = .returned (.slice a7 r.1.length au) ∧ ownS Gx.encI r.1 a7 au bd ∧ Mem (idsOf [[(b, .cells ⟨[.slice d c.code.length f, iv c.at_, .int .u64 c.seed]⟩ 78 (0, 0))]]) w w' [[(b, .cells ⟨[.slice d c.code.length f, iv r.2.1, .int .u64 r.2.2]⟩ 78 (0, 0))], bd] := by
 unfold M.s_l1Cur_owners at hm
 refine cE Try.func72 ?_
 have M0 := Mem.start' w [[(b, .cells ⟨[.slice d c.code.length f, iv c.at_, .int .u64 c.seed]⟩ 78 (0, 0))]] hA hN
 refine G_seq (G_region (wR 1 [(0, pB b 0)] w (W_nil (N_then (G_seq (G_region (wL (E := Gx.encI) ([] : List Int) 0 [] 3 M0 ?_)))))))
 intro U N c7 al ci H
 refine wR 1 [(0, pB b 0), (3, .slice U ([] : List Int).length N)] al (W_nil (N_then (G_seq (G_seq (G_region (wR 1 [(0, pB b 0), (3, .slice U ([] : List Int).length N), (6, pB b 0)] al ?_))))))
 obtain ⟨c5, cx, hm⟩ := gx_bind hm
 refine wC 76 #[pB b 0, iv 16] ((c_s_l1Cur_pick al c d f (l.memX m H) b 16 (H.hasPick [0]) (H.nodupPick [0] (by kernel_rfl)) (apartX.old l m H [0]) cx).mono ?_)
 rintro e_ db ⟨rfl, bl⟩
 have br := H.callF' [0] [1] (by kernel_rfl) bl
 refine ⟨_, rfl, ?_⟩
 refine wR 2 [(0, pB b 0), (3, .slice U ([] : List Int).length N), (4, iv (w64 (1 + c5.1)))] db (W_nil (N_then ?_))
 obtain ⟨g, c3, cg⟩ := gx_bind hm
 refine G_meet (fun a w' => ∃ (h : Option Addr), ∃ (i : Nat), ∃ (G : Seg), ownS Gx.encI g.1 h i G ∧ Mem (idsOf [[(b, .cells ⟨[.slice d c.code.length f, iv c.at_, .int .u64 c.seed]⟩ 78 (0, 0))]]) w w' [[(b, .cells ⟨[.slice d c.code.length f, iv g.2.1, .int .u64 g.2.2]⟩ 78 (0, 0))], G] ∧ Sat Try.f72.ntmps [(0, pB b 0), (3, .slice h g.1.length i)] a) ?_ ?_
 ·refine G_block (G_while (σ := List Int × Int × Int × Int) (ρ := List Int × Int × Int) (fun j a w' => ∃ (A : Option Addr), ∃ (y : Nat), ∃ (Y : Seg), ownS Gx.encI j.1 A y Y ∧ Mem (idsOf [[(b, .cells ⟨[.slice d c.code.length f, iv c.at_, .int .u64 c.seed]⟩ 78 (0, 0))]]) w w' [[(b, .cells ⟨[.slice d c.code.length f, iv j.2.2.1, .int .u64 j.2.2.2]⟩ 78 (0, 0))], Y] ∧ Sat Try.f72.ntmps [(0, pB b 0), (3, .slice A j.1.length y), (4, iv j.2.1)] a) c3 (fun a ha => ⟨U, N, c7, ci, br.pk [1, 0], ha.s⟩) ?_)
  clear hm
  intro j d8 hm cv dk bg ⟨A, y, Y, az, am, b4⟩
  refine G_use b4 (G_seq (G_seq (G_region (wR 2 [(0, pB b 0), (3, .slice A j.1.length y), (4, iv j.2.1), (10, .bool (decide (j.2.1 > 0)))] bg (W_nil (N_then ?_))))))
  rcases gx_bif hm with ⟨af, hm⟩ | ⟨af, hm⟩
  ·refine gT af (G_skip (N_then (G_seq (G_block (G_region (wR 2 [(0, pB b 0), (3, .slice A j.1.length y), (4, iv j.2.1), (13, .slice A j.1.length y), (14, pB b 0)] bg (wL (E := Gx.encI) [0, 0, 0, 1, 1, 2, 3, 4] 8 [iv 0, iv 0, iv 0, iv 1, iv 1, iv 2, iv 3, iv 4] 3 am ?_)))))))
   intro a8 av dx dc a0 v
   obtain ⟨bc, cy, hm⟩ := gx_bind hm
   refine wC 75 #[pB b 0, .slice a8 [0, 0, 0, 1, 1, 2, 3, 4].length av] ((c_s_l1Cur_among dc (⟨c.code, j.2.2.1, j.2.2.2⟩ : l1Cur) d f (l.memX m v) b [0, 0, 0, 1, 1, 2, 3, 4] a8 av (a0.rd v 2 (by kernel_rfl)) (v.hasPick [0]) (v.nodupPick [0] (by kernel_rfl)) (apartX.old l m v [0]) (apartX.own a0 v 2 (by kernel_rfl) [0] (by kernel_rfl)) cy).mono ?_)
   rintro e_ d1 ⟨rfl, bm⟩
   have bs := v.callF' [0] [1, 2] (by kernel_rfl) bm
   refine ⟨_, rfl, ?_⟩
   refine wL (E := Gx.encI) [bc.1] 1 [iv bc.1] 3 bs ?_
   intro dv ds dy d2 cj an
   obtain ⟨ar, cb, hm⟩ := gx_bind hm
   refine wA 8 [iv 0] 0 an az (cj.rd an 3 (by kernel_rfl)) cb ?_
   intro ak ae c8 bh ck bt
   refine wR 1 [(0, pB b 0), (3, .slice ak ar.length ae), (4, iv j.2.1)] bh (W_nil (N_block (N_then (G_region (wR 3 [(0, pB b 0), (3, .slice ak ar.length ae), (4, iv (w64 (j.2.1 - 1)))] bh (W_nil ?_))))))
   obtain rfl := Option.some.inj hm
   exact N_loop fun a ha => ⟨_, rfl, ak, ae, c8, ck, bt.pk [2, 0], ha.s⟩
  refine gF af (G_exit (N_then_exit (N_then_exit (N_block_eq ?_))))
  obtain rfl := Option.some.inj hm
  obtain rfl := cv _ rfl
  exact N_meet fun a ha => ⟨A, y, Y, az, am.pk [0, 1], ha.s⟩
 intro dl bi ⟨h, i, G, K, I, b5⟩
 refine N_use b5 ?_
 have hm := cg
 refine N_then (G_seq (G_seq (G_region (wR 1 [(0, pB b 0), (3, .slice h g.1.length i), (19, pB b 0)] bi ?_))))
 obtain ⟨B, cz, hm⟩ := gx_bind hm
 refine wC 76 #[pB b 0, iv 24] ((c_s_l1Cur_pick bi (⟨c.code, g.2.1, g.2.2⟩ : l1Cur) d f (l.memX m I) b 24 (I.hasPick [0]) (I.nodupPick [0] (by kernel_rfl)) (apartX.old l m I [0]) cz).mono ?_)
 rintro e_ L ⟨rfl, bn⟩
 have o := I.callF' [0] [1] (by kernel_rfl) bn
 refine ⟨_, rfl, ?_⟩
 refine W_nil (N_then (G_block (G_seq (G_region (wR 2 [(0, pB b 0), (3, .slice h g.1.length i), (20, iv B.1), (21, .bool (B.1 == 0))] L (W_nil (N_then ?_)))))))
 obtain ⟨z, cl, cd⟩ := gx_bind hm
 refine G_meet (fun a w' => ∃ (D : Option Addr), ∃ (C : Nat), ∃ (Z : Seg), ∃ (be : Seg), ownS Gx.encI z.1 D C Z ∧ ownS Gx.encI z.2.2.2 h i be ∧ Mem (idsOf [[(b, .cells ⟨[.slice d c.code.length f, iv c.at_, .int .u64 c.seed]⟩ 78 (0, 0))]]) w w' [[(b, .cells ⟨[.slice d c.code.length f, iv z.2.1, .int .u64 z.2.2.1]⟩ 78 (0, 0))], Z] ∧ Sat Try.f72.ntmps [(3, .slice D z.1.length C)] a) ?_ ?_
 ·have hm := cl
  rcases gx_bif hm with ⟨ag, hm⟩ | ⟨ag, hm⟩
  ·refine gT ag (G_region (wR 4 [(0, pB b 0), (3, .slice h g.1.length i), (23, .slice h g.1.length i), (24, pB b 0), (26, iv (g.1.length : Int))] L ?_))
   obtain ⟨n, c0, hm⟩ := gx_bind hm
   refine wC 76 #[pB b 0, iv (g.1.length : Int)] ((c_s_l1Cur_pick L (⟨c.code, B.2.1, B.2.2⟩ : l1Cur) d f (l.memX m o) b (g.1.length : Int) (o.hasPick [1]) (o.nodupPick [1] (by kernel_rfl)) (apartX.old l m o [1]) c0).mono ?_)
   rintro e_ dd ⟨rfl, bo⟩
   have bu := o.callF' [1] [0] (by kernel_rfl) bo
   refine ⟨_, rfl, ?_⟩
   refine wR 1 [(3, .slice h g.1.length i), (23, .slice h g.1.length i), (27, iv n.1), (28, pB b 0)] dd (wL (E := Gx.encI) [(-1), 5] 2 [iv (-1), iv 5] 3 bu ?_)
   intro a9 aw dz de a3 x
   obtain ⟨F, c1, hm⟩ := gx_bind hm
   refine wC 75 #[pB b 0, .slice a9 [(-1), 5].length aw] ((c_s_l1Cur_among de (⟨c.code, n.2.1, n.2.2⟩ : l1Cur) d f (l.memX m x) b [(-1), 5] a9 aw (a3.rd x 2 (by kernel_rfl)) (x.hasPick [1]) (x.nodupPick [1] (by kernel_rfl)) (apartX.old l m x [1]) (apartX.own a3 x 2 (by kernel_rfl) [1] (by kernel_rfl)) c1).mono ?_)
   rintro e_ df ⟨rfl, bp⟩
   have ao := x.callF' [1] [0, 2] (by kernel_rfl) bp
   refine ⟨_, rfl, ?_⟩
   obtain ⟨dj, a6, hm⟩ := gx_bind hm
   refine wV (elemP h (n.1.toNat * 1)) df (eI (K.rd ao 0 (by kernel_rfl)) rfl a6) (wE false 1 n.1.toNat 0 (n.1.toNat * 1) dj F.1 (iv F.1) 0 ao K (gxIdx_spec a6).2 ?_)
   intro d3 bf a4 bv
   refine wX 3 (.slice h g.1.length i) (.slice h (g.1.set n.1.toNat F.1).length i) (by rw [@List.length_set _ g.1 n.1.toNat F.1]) (wX 23 (.slice h g.1.length i) (.slice h (g.1.set n.1.toNat F.1).length i) (by rw [@List.length_set _ g.1 n.1.toNat F.1]) (W_nil ?_))
   obtain rfl := Option.some.inj hm
   exact N_meet fun a ha => ⟨h, i, bf, bf, a4, a4, bv.pk [2, 0], ha.s⟩
  refine gF ag (G_seq (G_region (wR 2 [(0, pB b 0), (3, .slice h g.1.length i), (20, iv B.1), (32, .bool (B.1 == 1))] L (W_nil (N_then ?_)))))
  obtain ⟨R, cn, ce⟩ := gx_bind hm
  refine G_meet (fun a w' => ∃ (V : Option Addr), ∃ (O : Nat), ∃ (aa : Seg), ownS Gx.encI R.1 V O aa ∧ Mem (idsOf [[(b, .cells ⟨[.slice d c.code.length f, iv c.at_, .int .u64 c.seed]⟩ 78 (0, 0))]]) w w' [[(b, .cells ⟨[.slice d c.code.length f, iv R.2.1, .int .u64 R.2.2]⟩ 78 (0, 0))], aa] ∧ Sat Try.f72.ntmps [(3, .slice V R.1.length O)] a) ?_ ?_
  ·have hm := cn
   rcases gx_bif hm with ⟨ah, hm⟩ | ⟨ah, hm⟩
   ·refine gT ah (G_region (wL (E := Gx.encI) ([] : List Int) 0 [] 3 o ?_))
    intro ba ax c9 dg cp bw
    refine wR 1 [(3, .slice ba ([] : List Int).length ax)] dg (W_nil ?_)
    obtain rfl := Option.some.inj hm
    exact N_meet fun a ha => ⟨ba, ax, c9, cp, bw.pk [1, 2], ha.s⟩
   refine gF ah (G_seq (G_region (wR 2 [(0, pB b 0), (3, .slice h g.1.length i), (35, .bool (B.1 == 2))] L (W_nil (N_then ?_)))))
   obtain ⟨S, cq, cf⟩ := gx_bind hm
   refine G_meet (fun a w' => ∃ (W : Option Addr), ∃ (P : Nat), ∃ (ab : Seg), ownS Gx.encI S.1 W P ab ∧ Mem (idsOf [[(b, .cells ⟨[.slice d c.code.length f, iv c.at_, .int .u64 c.seed]⟩ 78 (0, 0))]]) w w' [[(b, .cells ⟨[.slice d c.code.length f, iv S.2.1, .int .u64 S.2.2]⟩ 78 (0, 0))], ab] ∧ Sat Try.f72.ntmps [(3, .slice W S.1.length P)] a) ?_ ?_
   ·have hm := cq
    rcases gx_bif hm with ⟨ai, hm⟩ | ⟨ai, hm⟩
    ·refine gT ai ?_
     obtain ⟨T, c4, ch⟩ := gx_bind hm
     refine G_meet (fun a w' => ∃ (X : Option Addr), ∃ (Q : Nat), ∃ (ad : Seg), ownS Gx.encI T.1 X Q ad ∧ Mem (idsOf [[(b, .cells ⟨[.slice d c.code.length f, iv c.at_, .int .u64 c.seed]⟩ 78 (0, 0))]]) w w' [[(b, .cells ⟨[.slice d c.code.length f, iv T.2.1, .int .u64 T.2.2]⟩ 78 (0, 0))], ad] ∧ Sat Try.f72.ntmps [(3, .slice X T.1.length Q)] a) ?_ ?_
     ·refine G_block (G_while (σ := List Int × Int × Int) (ρ := List Int × Int × Int) (fun k a w' => ∃ (u : Option Addr), ∃ (t : Nat), ∃ (ac : Seg), ownS Gx.encI k.1 u t ac ∧ Mem (idsOf [[(b, .cells ⟨[.slice d c.code.length f, iv c.at_, .int .u64 c.seed]⟩ 78 (0, 0))]]) w w' [[(b, .cells ⟨[.slice d c.code.length f, iv k.2.1, .int .u64 k.2.2]⟩ 78 (0, 0))], ac] ∧ Sat Try.f72.ntmps [(0, pB b 0), (3, .slice u k.1.length t)] a) c4 (fun a ha => ⟨h, i, G, K, o.pk [1, 0], ha.s⟩) ?_)
      clear hm
      intro k d9 hm cw dm bj ⟨u, t, ac, a5, J, b6⟩
      refine G_use b6 (G_seq (G_seq (G_region (wR 3 [(0, pB b 0), (3, .slice u k.1.length t), (38, iv (k.1.length : Int)), (39, pB b 0)] bj ?_))))
      obtain ⟨c6, c2, hm⟩ := gx_bind hm
      refine wC 76 #[pB b 0, iv 2] ((c_s_l1Cur_pick bj (⟨c.code, k.2.1, k.2.2⟩ : l1Cur) d f (l.memX m J) b 2 (J.hasPick [0]) (J.nodupPick [0] (by kernel_rfl)) (apartX.old l m J [0]) c2).mono ?_)
      rintro e_ bk ⟨rfl, bq⟩
      have ap := J.callF' [0] [1] (by kernel_rfl) bq
      refine ⟨_, rfl, ?_⟩
      refine wR 2 [(0, pB b 0), (3, .slice u k.1.length t), (42, .bool (decide ((k.1.length : Int) < (w64 (16 + c6.1)))))] bk (W_nil (N_then ?_))
      rcases gx_bif hm with ⟨aj, hm⟩ | ⟨aj, hm⟩
      ·refine gT aj (G_skip (N_then (G_block (G_region (wR 1 [(0, pB b 0), (3, .slice u k.1.length t), (43, .slice u k.1.length t)] bk (wL (E := Gx.encI) [0] 1 [iv 0] 3 ap ?_))))))
       intro dw dt d0 d4 ct aq
       obtain ⟨b3, cc, hm⟩ := gx_bind hm
       refine wA 8 [iv 0] 0 aq a5 (ct.rd aq 2 (by kernel_rfl)) cc ?_
       intro bb ay da dh cu bx
       refine wR 1 [(0, pB b 0), (3, .slice bb b3.length ay)] dh (W_nil (N_block ?_))
       obtain rfl := Option.some.inj hm
       exact N_loop fun a ha => ⟨_, rfl, bb, ay, da, cu, bx.pk [1, 0], ha.s⟩
      refine gF aj (G_exit (N_then_exit (N_then_exit (N_block_eq ?_))))
      obtain rfl := Option.some.inj hm
      obtain rfl := cw _ rfl
      exact N_meet fun a ha => ⟨u, t, ac, a5, ap.pk [1, 0], ha.s⟩
     intro dn d5 ⟨X, Q, ad, cs, bz, b7⟩
     refine N_use b7 ?_
     have hm := ch
     obtain rfl := Option.some.inj hm
     exact N_meet fun a ha => ⟨X, Q, ad, cs, bz.pk [0, 1], ha.s⟩
    refine gF ai (G_skip ?_)
    obtain rfl := Option.some.inj hm
    exact N_meet fun a ha => ⟨h, i, G, K, o.pk [1, 0], ha.s⟩
   intro dp d6 ⟨W, P, ab, cr, b0, b8⟩
   refine N_use b8 ?_
   have hm := cf
   obtain rfl := Option.some.inj hm
   exact N_meet fun a ha => ⟨W, P, ab, cr, b0.pk [0, 1], ha.s⟩
  intro dq d7 ⟨V, O, aa, co, b1, b9⟩
  refine N_use b9 ?_
  have hm := ce
  obtain rfl := Option.some.inj hm
  exact N_meet fun a ha => ⟨V, O, aa, G, co, K, b1.pk [0, 1], ha.s⟩
 intro dr di ⟨D, C, Z, be, cm, du, b2, ca⟩
 refine N_use ca ?_
 have hm := cd
 refine N_block (N_then (G_seq (G_region (wR 2 [(2, .slice D z.1.length C)] di (W_nil (N_then (G_ret ?_)))))))
 obtain rfl := Option.some.inj hm
 exact N_ret [.slice D z.1.length C] (rC RVs_nil) (⟨D, C, Z, rfl, cm, b2.pk [0, 1]⟩)
theorem c_s_l1Cur_one (w : World) (a : l1Cur) (c : Option Addr) (d : Nat) (g : rdS Gx.encU8 w a.code c d) (b : Nat) (f : Int) (hA : ∀ q ∈ List.flatten [[(b, .cells ⟨[.slice c a.code.length d, iv a.at_, .int .u64 a.seed]⟩ 78 (0, 0))]], w.heap[q.1]? = some q.2) (hN : (idsOf [[(b, .cells ⟨[.slice c a.code.length d, iv a.at_, .int .u64 a.seed]⟩ 78 (0, 0))]]).Nodup) (h : apartX (idsOf [[(b, .cells ⟨[.slice c a.code.length d, iv a.at_, .int .u64 a.seed]⟩ 78 (0, 0))]]) a.code c) {r : Bool × Int × Int} (hm : M.s_l1Cur_one a f = some r) :
  Calls Try.prog 89 #[pB b 0, iv f] w fun e w' => e = .returned (.bool r.1) ∧ Mem (idsOf [[(b, .cells ⟨[.slice c a.code.length d, iv a.at_, .int .u64 a.seed]⟩ 78 (0, 0))]]) w w' [[(b, .cells ⟨[.slice c a.code.length d, iv r.2.1, .int .u64 r.2.2]⟩ 78 (0, 0))]] := by
 unfold M.s_l1Cur_one at hm
 refine cE Try.func89 ?_
 have M0 := Mem.start' w [[(b, .cells ⟨[.slice c a.code.length d, iv a.at_, .int .u64 a.seed]⟩ 78 (0, 0))]] hA hN
 refine G_seq (G_region (wR 1 [(0, pB b 0), (1, iv f)] w (W_nil (N_then (G_seq (G_region (wR 2 [(5, pB b 0), (6, iv f)] w ?_)))))))
 obtain ⟨i, l, hm⟩ := gx_bind hm
 refine wC 76 #[pB b 0, iv f] ((c_s_l1Cur_pick w a c d (g.memX h M0) b f (M0.hasPick [0]) (M0.nodupPick [0] (by kernel_rfl)) (apartX.old g h M0 [0]) l).mono ?_)
 rintro e_ m ⟨rfl, j⟩
 have k := M0.callF' [0] [] (by kernel_rfl) j
 refine ⟨_, rfl, ?_⟩
 refine wR 2 [(4, .bool (i.1 == 0))] m (W_nil (N_then (G_ret ?_)))
 obtain rfl := Option.some.inj hm
 exact N_ret [.bool (i.1 == 0)] (rC RVs_nil) (⟨rfl, k.pk [0]⟩)
end Go.Proofs.Ytlfligjpmodefaa
