/- The walks, printed by program: whenever the model gives r, the call returns r. Part 7. -/
import Derived.Test.YtlfligjpmodefaaM
import Derived.Test.YtlfligjpmodefaaGxZ
import Derived.Test.YtlfligjpmodefaaProg
import Derived.Test.YtlfligjpmodefaaSh
import Derived.Test.YtlfligjpmodefaaC6
set_option linter.unusedVariables false
set_option maxRecDepth 100000
set_option maxHeartbeats 4000000
namespace Go.Proofs.Ytlfligjpmodefaa
open Go.Gx
theorem c_l_FnBalloonGoals (w : World) (b : List Int) (d : Option Addr) (c : Nat) (ao : rdS Gx.encU8 w b d c) {r : Bool} (hm : M.l_FnBalloonGoals b = some r) :
  Calls Try.prog 12 #[.slice d b.length c] w fun e w' => e = .returned (.bool r) ∧ Mem [] w w' [] := by
 unfold M.l_FnBalloonGoals at hm
 refine cE Try.func12 ?_
 have M0 := Mem.refl [] w
 refine G_seq (G_region (wR 1 [(0, .slice d b.length c)] w (W_nil (N_then (G_seq (G_seq (G_region (wR 1 [(0, .slice d b.length c), (50, .slice d b.length c)] w ?_))))))))
 obtain ⟨hk, fc, hm⟩ := gx_bind hm
 refine wC 38 #[.slice d b.length c] ((c_l_rBig w b d c (ao.mem0 M0) fc).mono ?_)
 rintro e_ ce ⟨rfl, dq⟩
 have a7 := M0.call0 dq
 refine ⟨_, rfl, ?_⟩
 refine W_nil (N_then ?_)
 rcases gx_bif hm with ⟨bk, hm⟩ | ⟨bk, hm⟩
 ·refine gT bk (G_seq (G_region (wR 1 [(2, .bool true)] ce (W_nil (N_then (G_ret (N_then_ret ?_)))))))
  obtain rfl := Option.some.inj hm
  exact N_ret [.bool true] (rC RVs_nil) (⟨rfl, a7.pk []⟩)
 refine gF bk (G_skip (N_then (G_seq (G_region (wR 1 [(0, .slice d b.length c), (53, .slice d b.length c)] ce ?_)))))
 obtain ⟨h, fd, hm⟩ := gx_bind hm
 refine wC 42 #[.slice d b.length c] ((c_s_DrawSettleGuest ce b d c (ao.mem0 a7) fd).mono ?_)
 rintro e_ cf ⟨N, E, hl, O, F, hn, ho, rfl, c2, c3, dr⟩
 have a8 := a7.call dr
 refine ⟨_, rfl, ?_⟩
 refine wR 7 [(0, .slice d b.length c), (3, .slice N h.1.length E), (4, .slice O h.2.1.length F), (5, iv h.2.2)] cf (W_nil (N_then (G_seq (G_region (wR 3 [(0, .slice d b.length c), (3, .slice N h.1.length E), (4, .slice O h.2.1.length F), (5, iv h.2.2), (59, .slice N h.1.length E), (60, .slice O h.2.1.length F), (61, iv h.2.2)] cf ?_)))))
 obtain ⟨f, fe, hm⟩ := gx_bind hm
 refine wC 37 #[.slice N h.1.length E, .slice O h.2.1.length F, iv h.2.2] ((c_i_SettleGuest cf h.1 N E (c2.rd a8 0 (by kernel_rfl)) h.2.1 O F (c3.rd a8 1 (by kernel_rfl) 2 (by kernel_rfl)) h.2.2 fe).mono ?_)
 rintro e_ cg ⟨m, k, gd, n, l, ge, gf, rfl, a0, a3, ds⟩
 have a9 := a8.call ds
 refine ⟨_, rfl, ?_⟩
 refine wR 9 [(0, .slice d b.length c), (3, .slice N h.1.length E), (4, .slice O h.2.1.length F), (5, iv h.2.2), (6, .slice m f.1.length k), (7, .slice n f.2.1.length l), (8, iv f.2.2.1), (9, .bool f.2.2.2)] cg (W_nil (N_then (G_seq (G_seq (G_region (wR 3 [(0, .slice d b.length c), (5, iv h.2.2), (6, .slice m f.1.length k), (7, .slice n f.2.1.length l), (8, iv f.2.2.1), (9, .bool f.2.2.2), (68, .slice N h.1.length E), (69, .slice O h.2.1.length F), (70, iv h.2.2)] cg ?_))))))
 obtain ⟨y, ff, hm⟩ := gx_bind hm
 refine wC 36 #[.slice N h.1.length E, .slice O h.2.1.length F, iv h.2.2] ((c_s_SettleGuest cg h.1 N E (c2.rd a9 0 (by kernel_rfl)) h.2.1 O F (c3.rd a9 1 (by kernel_rfl) 2 (by kernel_rfl)) h.2.2 ff).mono ?_)
 rintro e_ ac ⟨ag, ae, hp, Y, X, hq, hr, rfl, ez, e0, dt⟩
 have aj := a9.call dt
 refine ⟨_, rfl, ?_⟩
 refine wR 9 [(0, .slice d b.length c), (5, iv h.2.2), (6, .slice m f.1.length k), (7, .slice n f.2.1.length l), (8, iv f.2.2.1), (9, .bool f.2.2.2), (10, .slice ag y.1.length ae), (11, .slice Y y.2.1.length X), (12, iv y.2.2.1), (13, .bool y.2.2.2)] ac (W_nil (N_then (G_seq ?_)))
 obtain ⟨f1, e1, er⟩ := gx_bind hm
 refine G_meet (fun a w' => Mem [] w w' [gd, ge, gf] ∧ Sat Try.f12.ntmps [(0, .slice d b.length c), (5, iv h.2.2), (6, .slice m f.1.length k), (7, .slice n f.2.1.length l), (9, .bool f.2.2.2), (95, .bool f1)] a) ?_ ?_
 ·have hm := e1
  refine G_region (wR 4 [(0, .slice d b.length c), (5, iv h.2.2), (6, .slice m f.1.length k), (7, .slice n f.2.1.length l), (8, iv f.2.2.1), (9, .bool f.2.2.2), (10, .slice ag y.1.length ae), (11, .slice Y y.2.1.length X), (12, iv y.2.2.1), (79, .bool (!(f.2.2.2 == y.2.2.2)))] ac ?_)
  rcases gx_bif hm with ⟨bl, hm⟩ | ⟨bl, hm⟩
  ·refine wK 79 true bl (wR 16 [(0, .slice d b.length c), (5, iv h.2.2), (6, .slice m f.1.length k), (7, .slice n f.2.1.length l), (9, .bool f.2.2.2), (95, .bool true)] ac (W_nil ?_))
   obtain rfl := Option.some.inj hm
   exact N_meet fun a ha => ⟨aj.pk [3, 4, 5], ha.s⟩
  refine wK 79 false bl (wR 5 [(0, .slice d b.length c), (5, iv h.2.2), (6, .slice m f.1.length k), (7, .slice n f.2.1.length l), (9, .bool f.2.2.2), (10, .slice ag y.1.length ae), (11, .slice Y y.2.1.length X), (84, .bool (f.2.2.1 != y.2.2.1))] ac ?_)
  rcases gx_bif hm with ⟨bm, hm⟩ | ⟨bm, hm⟩
  ·refine wK 84 true bm (wR 11 [(0, .slice d b.length c), (5, iv h.2.2), (6, .slice m f.1.length k), (7, .slice n f.2.1.length l), (9, .bool f.2.2.2), (95, .bool true)] ac (W_nil ?_))
   obtain rfl := Option.some.inj hm
   exact N_meet fun a ha => ⟨aj.pk [3, 4, 5], ha.s⟩
  refine wK 84 false bm (wR 2 [(0, .slice d b.length c), (5, iv h.2.2), (6, .slice m f.1.length k), (7, .slice n f.2.1.length l), (9, .bool f.2.2.2), (11, .slice Y y.2.1.length X), (84, .bool false), (85, .slice m f.1.length k), (86, .slice ag y.1.length ae)] ac ?_)
  obtain ⟨f9, fg, hm⟩ := gx_bind hm
  refine wC 40 #[.slice m f.1.length k, .slice ag y.1.length ae] ((c_l_rInts ac f.1 m k (a0.rd aj 3 (by kernel_rfl)) y.1 ag ae (ez.rd aj 6 (by kernel_rfl)) fg).mono ?_)
  rintro e_ a5 ⟨rfl, du⟩
  have aw := aj.call0 du
  refine ⟨_, rfl, ?_⟩
  refine wR 3 [(0, .slice d b.length c), (5, iv h.2.2), (6, .slice m f.1.length k), (7, .slice n f.2.1.length l), (9, .bool f.2.2.2), (11, .slice Y y.2.1.length X), (90, .bool (!f9))] a5 ?_
  rcases gx_bif hm with ⟨bn, hm⟩ | ⟨bn, hm⟩
  ·refine wK 90 true bn (wR 5 [(0, .slice d b.length c), (5, iv h.2.2), (6, .slice m f.1.length k), (7, .slice n f.2.1.length l), (9, .bool f.2.2.2), (95, .bool true)] a5 (W_nil ?_))
   obtain rfl := Option.some.inj hm
   exact N_meet fun a ha => ⟨aw.pk [3, 4, 5], ha.s⟩
  refine wK 90 false bn (wR 2 [(0, .slice d b.length c), (5, iv h.2.2), (6, .slice m f.1.length k), (7, .slice n f.2.1.length l), (9, .bool f.2.2.2), (90, .bool false), (91, .slice n f.2.1.length l), (92, .slice Y y.2.1.length X)] a5 ?_)
  obtain ⟨ga, fh, hm⟩ := gx_bind hm
  refine wC 41 #[.slice n f.2.1.length l, .slice Y y.2.1.length X] ((c_l_rBalloons a5 f.2.1 n l (a3.rd aw 4 (by kernel_rfl) 5 (by kernel_rfl)) y.2.1 Y X (e0.rd aw 7 (by kernel_rfl) 8 (by kernel_rfl)) fh).mono ?_)
  rintro e_ gg ⟨rfl, dv⟩
  have ea := aw.call0 dv
  refine ⟨_, rfl, ?_⟩
  refine wR 2 [(0, .slice d b.length c), (5, iv h.2.2), (6, .slice m f.1.length k), (7, .slice n f.2.1.length l), (9, .bool f.2.2.2), (95, .bool (!ga))] gg (W_nil ?_)
  obtain rfl := Option.some.inj hm
  exact N_meet fun a ha => ⟨ea.pk [3, 4, 5], ha.s⟩
 intro gk a6 ⟨ak, ee⟩
 refine N_use ee ?_
 have hm := er
 refine N_then ?_
 rcases gx_bif hm with ⟨bo, hm⟩ | ⟨bo, hm⟩
 ·refine gT bo (G_seq (G_region (wR 1 [(2, .bool false)] a6 (W_nil (N_then (G_ret (N_then_ret ?_)))))))
  obtain rfl := Option.some.inj hm
  exact N_ret [.bool false] (rC RVs_nil) (⟨rfl, ak.pk []⟩)
 refine gF bo (G_skip (N_then (G_seq (G_seq (G_region (wR 1 [(0, .slice d b.length c), (5, iv h.2.2), (6, .slice m f.1.length k), (7, .slice n f.2.1.length l), (96, .bool f.2.2.2)] a6 (W_nil (N_then ?_))))))))
 obtain ⟨f7, e2, c0⟩ := gx_bind hm
 refine G_meet (fun a w' => ∃ (de : Unit), f7 = .inl de ∧ Mem [] w w' [] ∧ Sat Try.f12.ntmps [(0, .slice d b.length c)] a) ?_ ?_
 ·have hm := e2
  rcases gx_bif hm with ⟨bp, hm⟩ | ⟨bp, hm⟩
  ·refine gT bp (G_seq (G_region (wR 3 [(0, .slice d b.length c), (5, iv h.2.2), (6, .slice m f.1.length k), (7, .slice n f.2.1.length l), (98, .slice m f.1.length k), (99, .slice n f.2.1.length l), (100, iv h.2.2)] a6 ?_)))
   obtain ⟨ah, fi, hm⟩ := gx_bind hm
   refine wC 35 #[.slice m f.1.length k, .slice n f.2.1.length l, iv h.2.2] ((c_i_Inflate a6 f.1 m k (a0.rd ak 0 (by kernel_rfl)) f.2.1 n l (a3.rd ak 1 (by kernel_rfl) 2 (by kernel_rfl)) h.2.2 fi).mono ?_)
   rintro e_ ch ⟨he, gw, hs, hf, gx, ht, hu, rfl, g7, g8, dw⟩
   have ba := ak.call dw
   refine ⟨_, rfl, ?_⟩
   refine wR 7 [(0, .slice d b.length c), (5, iv h.2.2), (6, .slice m f.1.length k), (7, .slice n f.2.1.length l), (16, .bool ah.2.2)] ch (W_nil (N_then (G_seq (G_region (wR 3 [(0, .slice d b.length c), (5, iv h.2.2), (6, .slice m f.1.length k), (7, .slice n f.2.1.length l), (16, .bool ah.2.2), (106, .slice m f.1.length k), (107, .slice n f.2.1.length l), (108, iv h.2.2)] ch ?_)))))
   obtain ⟨ar, fj, hm⟩ := gx_bind hm
   refine wC 33 #[.slice m f.1.length k, .slice n f.2.1.length l, iv h.2.2] ((c_i_Deflate ch f.1 m k (a0.rd ba 0 (by kernel_rfl)) f.2.1 n l (a3.rd ba 1 (by kernel_rfl) 2 (by kernel_rfl)) h.2.2 fj).mono ?_)
   rintro e_ ci ⟨hg, gy, hv, hh, gz, hw, hx, rfl, g9, hb, dx⟩
   have bb := ba.call dx
   refine ⟨_, rfl, ?_⟩
   refine wR 7 [(0, .slice d b.length c), (5, iv h.2.2), (6, .slice m f.1.length k), (7, .slice n f.2.1.length l), (16, .bool ah.2.2), (19, .bool ar.2.2)] ci (W_nil (N_then (G_seq (G_region (wR 3 [(0, .slice d b.length c), (16, .bool ah.2.2), (19, .bool ar.2.2), (114, .slice m f.1.length k), (115, .slice n f.2.1.length l), (116, iv h.2.2)] ci ?_)))))
   obtain ⟨V, fk, hm⟩ := gx_bind hm
   refine wC 37 #[.slice m f.1.length k, .slice n f.2.1.length l, iv h.2.2] ((c_i_SettleGuest ci f.1 m k (a0.rd bb 0 (by kernel_rfl)) f.2.1 n l (a3.rd bb 1 (by kernel_rfl) 2 (by kernel_rfl)) h.2.2 fk).mono ?_)
   rintro e_ Z ⟨hi, g0, hy, hj, g1, hz, h0, rfl, hc, hd, dy⟩
   have ax := bb.call dy
   refine ⟨_, rfl, ?_⟩
   refine wR 9 [(0, .slice d b.length c), (16, .bool ah.2.2), (19, .bool ar.2.2), (22, iv V.2.2.1), (23, .bool V.2.2.2)] Z (W_nil (N_then (G_seq ?_)))
   obtain ⟨f2, e3, es⟩ := gx_bind hm
   refine G_meet (fun a w' => Mem [] w w' [] ∧ Sat Try.f12.ntmps [(0, .slice d b.length c), (133, .bool f2)] a) ?_ ?_
   ·have hm := e3
    refine G_region (wR 2 [(0, .slice d b.length c), (19, .bool ar.2.2), (22, iv V.2.2.1), (23, .bool V.2.2.2), (123, .bool ah.2.2)] Z ?_)
    rcases gx_bif hm with ⟨bq, hm⟩ | ⟨bq, hm⟩
    ·refine wK 123 true bq (wR 10 [(0, .slice d b.length c), (133, .bool true)] Z (W_nil ?_))
     obtain rfl := Option.some.inj hm
     exact N_meet fun a ha => ⟨ax.pk [], ha.s⟩
    refine wK 123 false bq (wR 3 [(0, .slice d b.length c), (22, iv V.2.2.1), (23, .bool V.2.2.2), (126, .bool ar.2.2)] Z ?_)
    rcases gx_bif hm with ⟨br, hm⟩ | ⟨br, hm⟩
    ·refine wK 126 true br (wR 7 [(0, .slice d b.length c), (133, .bool true)] Z (W_nil ?_))
     obtain rfl := Option.some.inj hm
     exact N_meet fun a ha => ⟨ax.pk [], ha.s⟩
    refine wK 126 false br (wR 4 [(0, .slice d b.length c), (22, iv V.2.2.1), (130, .bool (!V.2.2.2))] Z ?_)
    rcases gx_bif hm with ⟨bs, hm⟩ | ⟨bs, hm⟩
    ·refine wK 130 true bs (wR 3 [(0, .slice d b.length c), (133, .bool true)] Z (W_nil ?_))
     obtain rfl := Option.some.inj hm
     exact N_meet fun a ha => ⟨ax.pk [], ha.s⟩
    refine wK 130 false bs (wR 3 [(0, .slice d b.length c), (133, .bool (V.2.2.1 != 0))] Z (W_nil ?_))
    obtain rfl := Option.some.inj hm
    exact N_meet fun a ha => ⟨ax.pk [], ha.s⟩
   intro gl gh ⟨ct, ef⟩
   refine N_use ef ?_
   have hm := es
   refine N_then ?_
   rcases gx_bif hm with ⟨bt, hm⟩ | ⟨bt, hm⟩
   ·refine gT bt (G_seq (G_region (wR 1 [(2, .bool false)] gh (W_nil (N_then (G_ret (N_meet_ret ?_)))))))
    obtain rfl := Option.some.inj hm
    have hm := c0
    simp only [Sum.elim_inr] at hm
    refine N_then_ret ?_
    obtain rfl := Option.some.inj hm
    exact N_ret [.bool false] (rC RVs_nil) (⟨rfl, ct.pk []⟩)
   refine gF bt (G_skip ?_)
   obtain rfl := Option.some.inj hm
   exact N_meet fun a ha => ⟨_, rfl, ct.pk [], ha.s⟩
  refine gF bp (G_skip ?_)
  obtain rfl := Option.some.inj hm
  exact N_meet fun a ha => ⟨_, rfl, ak.pk [], ha.s⟩
 intro gm dj ⟨de, hout_, cu, eg⟩
 refine N_use eg ?_
 subst hout_
 have hm := c0
 simp only [Sum.elim_inl] at hm
 refine N_then (G_seq (G_region (wR 1 [(0, .slice d b.length c), (135, .slice d b.length c)] dj ?_)))
 obtain ⟨i, fl, hm⟩ := gx_bind hm
 refine wC 43 #[.slice d b.length c] ((c_s_DrawShareGoals dj b d c (ao.mem0 cu) fl).mono ?_)
 rintro e_ cj ⟨P, G, h1, Q, H, h2, h3, rfl, c4, c5, dz⟩
 have bc := cu.call dz
 refine ⟨_, rfl, ?_⟩
 refine wR 7 [(0, .slice d b.length c), (24, .slice P i.1.length G), (25, .slice Q i.2.1.length H), (26, iv i.2.2)] cj (W_nil (N_then (G_seq (G_region (wR 3 [(0, .slice d b.length c), (24, .slice P i.1.length G), (25, .slice Q i.2.1.length H), (26, iv i.2.2), (141, .slice P i.1.length G), (142, .slice Q i.2.1.length H), (143, iv i.2.2)] cj ?_)))))
 obtain ⟨j, fm, hm⟩ := gx_bind hm
 refine wC 31 #[.slice P i.1.length G, .slice Q i.2.1.length H, iv i.2.2] ((c_i_ShareGoals cj i.1 P G (c4.rd bc 0 (by kernel_rfl)) i.2.1 Q H (c5.rd bc 1 (by kernel_rfl) 2 (by kernel_rfl)) i.2.2 fm).mono ?_)
 rintro e_ ck ⟨u, x, dh, di, rfl, c6, d0⟩
 have bd := bc.call d0
 refine ⟨_, rfl, ?_⟩
 refine wR 5 [(0, .slice d b.length c), (24, .slice P i.1.length G), (25, .slice Q i.2.1.length H), (26, iv i.2.2), (27, .slice u j.1.length x), (28, .bool j.2)] ck (W_nil (N_then (G_seq (G_seq (G_region (wR 3 [(0, .slice d b.length c), (26, iv i.2.2), (27, .slice u j.1.length x), (28, .bool j.2), (148, .slice P i.1.length G), (149, .slice Q i.2.1.length H), (150, iv i.2.2)] ck ?_))))))
 obtain ⟨aa, fn, hm⟩ := gx_bind hm
 refine wC 30 #[.slice P i.1.length G, .slice Q i.2.1.length H, iv i.2.2] ((c_s_ShareGoals ck i.1 P G (c4.rd bd 0 (by kernel_rfl)) i.2.1 Q H (c5.rd bd 1 (by kernel_rfl) 2 (by kernel_rfl)) i.2.2 fn).mono ?_)
 rintro e_ au ⟨ap, am, h4, h5, rfl, e4, d1⟩
 have ay := bd.call d1
 refine ⟨_, rfl, ?_⟩
 refine wR 5 [(0, .slice d b.length c), (26, iv i.2.2), (27, .slice u j.1.length x), (28, .bool j.2), (29, .slice ap aa.1.length am), (30, .bool aa.2)] au (W_nil (N_then (G_seq ?_)))
 obtain ⟨f3, e5, et⟩ := gx_bind hm
 refine G_meet (fun a w' => Mem [] w w' [dh, di] ∧ Sat Try.f12.ntmps [(0, .slice d b.length c), (26, iv i.2.2), (27, .slice u j.1.length x), (28, .bool j.2), (162, .bool f3)] a) ?_ ?_
 ·have hm := e5
  refine G_region (wR 4 [(0, .slice d b.length c), (26, iv i.2.2), (27, .slice u j.1.length x), (28, .bool j.2), (29, .slice ap aa.1.length am), (157, .bool (!(j.2 == aa.2)))] au ?_)
  rcases gx_bif hm with ⟨bu, hm⟩ | ⟨bu, hm⟩
  ·refine wK 157 true bu (wR 5 [(0, .slice d b.length c), (26, iv i.2.2), (27, .slice u j.1.length x), (28, .bool j.2), (162, .bool true)] au (W_nil ?_))
   obtain rfl := Option.some.inj hm
   exact N_meet fun a ha => ⟨ay.pk [3, 4], ha.s⟩
  refine wK 157 false bu (wR 2 [(0, .slice d b.length c), (26, iv i.2.2), (27, .slice u j.1.length x), (28, .bool j.2), (157, .bool false), (158, .slice u j.1.length x), (159, .slice ap aa.1.length am)] au ?_)
  obtain ⟨gb, fo, hm⟩ := gx_bind hm
  refine wC 41 #[.slice u j.1.length x, .slice ap aa.1.length am] ((c_l_rBalloons au j.1 u x (c6.rd ay 3 (by kernel_rfl) 4 (by kernel_rfl)) aa.1 ap am (e4.rd ay 5 (by kernel_rfl) 6 (by kernel_rfl)) fo).mono ?_)
  rintro e_ gi ⟨rfl, d2⟩
  have eb := ay.call0 d2
  refine ⟨_, rfl, ?_⟩
  refine wR 2 [(0, .slice d b.length c), (26, iv i.2.2), (27, .slice u j.1.length x), (28, .bool j.2), (162, .bool (!gb))] gi (W_nil ?_)
  obtain rfl := Option.some.inj hm
  exact N_meet fun a ha => ⟨eb.pk [3, 4], ha.s⟩
 intro gn cl ⟨cv, eh⟩
 refine N_use eh ?_
 have hm := et
 refine N_then ?_
 rcases gx_bif hm with ⟨bv, hm⟩ | ⟨bv, hm⟩
 ·refine gT bv (G_seq (G_region (wR 1 [(2, .bool false)] cl (W_nil (N_then (G_ret (N_then_ret ?_)))))))
  obtain rfl := Option.some.inj hm
  exact N_ret [.bool false] (rC RVs_nil) (⟨rfl, cv.pk []⟩)
 refine gF bv (G_skip (N_then (G_seq (G_region (wR 1 [(0, .slice d b.length c), (26, iv i.2.2), (27, .slice u j.1.length x), (28, .bool j.2), (31, iv 0)] cl (W_nil (N_then (G_seq (G_seq (G_region (wR 1 [(0, .slice d b.length c), (26, iv i.2.2), (27, .slice u j.1.length x), (28, .bool j.2), (31, iv 0), (32, iv 0)] cl (W_nil (N_then ?_)))))))))))))
 obtain ⟨cb, fw, ey⟩ := gx_bind hm
 refine G_meet (fun a w' => Mem [] w w' [] ∧ Sat Try.f12.ntmps [(0, .slice d b.length c), (26, iv i.2.2), (28, .bool j.2), (31, iv cb)] a) ?_ ?_
 ·refine G_block (G_while (σ := Int × Int) (ρ := Int) (fun A a w' => Mem [] w w' [dh, di] ∧ Sat Try.f12.ntmps [(0, .slice d b.length c), (26, iv i.2.2), (27, .slice u j.1.length x), (28, .bool j.2), (31, iv A.1), (32, iv A.2)] a) fw (fun a ha => ⟨cv.pk [0, 1], ha.s⟩) ?_)
  clear hm
  intro A ih hm fb go ad ⟨al, ei⟩
  refine G_use ei (G_seq (G_seq (G_region (wR 4 [(0, .slice d b.length c), (26, iv i.2.2), (27, .slice u j.1.length x), (28, .bool j.2), (31, iv A.1), (32, iv A.2), (166, .bool (decide (A.2 < (j.1.length : Int))))] ad (W_nil (N_then ?_))))))
  rcases gx_bif hm with ⟨bw, hm⟩ | ⟨bw, hm⟩
  ·refine gT bw (G_skip (N_then (G_seq (G_block (G_region (wR 3 [(0, .slice d b.length c), (26, iv i.2.2), (27, .slice u j.1.length x), (28, .bool j.2), (31, iv A.1), (32, iv A.2), (169, iv A.1), (170, .slice u j.1.length x), (171, iv A.2)] ad ?_))))))
   obtain ⟨cs, fy, hm⟩ := gx_bind hm
   obtain ⟨ij, dd, ca, g5⟩ := id c6
   obtain ⟨g2, b7⟩ := gxIdx_fst dd fy
   refine wV (elemP u (A.2.toNat * 3)) ad (eI (ca.rd al 0 (by kernel_rfl)) (len_fst dd) b7) (wV (elemP u (A.2.toNat * 3 + 1)) ad (eF 1 (A.2.toNat * 3) 1 (ca.rd al 0 (by kernel_rfl)) b7) (wV (iv cs.Goal) ad (eE false 1 1 (A.2.toNat * 3 + 1) (ca.rd al 0 (by kernel_rfl)) b7) (wR 2 [(0, .slice d b.length c), (26, iv i.2.2), (27, .slice u j.1.length x), (28, .bool j.2), (31, iv (w64 (A.1 + cs.Goal))), (32, iv A.2)] ad (W_nil (N_block (N_then (G_region (wR 3 [(0, .slice d b.length c), (26, iv i.2.2), (27, .slice u j.1.length x), (28, .bool j.2), (31, iv (w64 (A.1 + cs.Goal))), (32, iv (w64 (A.2 + 1)))] ad (W_nil ?_)))))))))
   obtain rfl := Option.some.inj hm
   exact N_loop fun a ha => ⟨_, rfl, al.pk [0, 1], ha.s⟩
  refine gF bw (G_exit (N_then_exit (N_then_exit (N_block_eq ?_))))
  obtain rfl := Option.some.inj hm
  obtain rfl := fb _ rfl
  exact N_meet fun a ha => ⟨al.pk [], ha.s⟩
 intro gp cm ⟨cw, ej⟩
 refine N_use ej ?_
 have hm := ey
 refine N_then (G_seq (G_seq ?_))
 obtain ⟨f4, e6, eu⟩ := gx_bind hm
 refine G_meet (fun a w' => Mem [] w w' [] ∧ Sat Try.f12.ntmps [(0, .slice d b.length c), (181, .bool f4)] a) ?_ ?_
 ·have hm := e6
  refine G_region (wR 2 [(0, .slice d b.length c), (26, iv i.2.2), (31, iv cb), (177, .bool j.2)] cm ?_)
  rcases gx_bif hm with ⟨bx, hm⟩ | ⟨bx, hm⟩
  ·refine wK 177 true bx (wR 4 [(0, .slice d b.length c), (181, .bool (cb != i.2.2))] cm (W_nil ?_))
   obtain rfl := Option.some.inj hm
   exact N_meet fun a ha => ⟨cw.pk [], ha.s⟩
  refine wK 177 false bx (wR 4 [(0, .slice d b.length c), (181, .bool false)] cm (W_nil ?_))
  obtain rfl := Option.some.inj hm
  exact N_meet fun a ha => ⟨cw.pk [], ha.s⟩
 intro gq cn ⟨be, ek⟩
 refine N_use ek ?_
 have hm := eu
 refine N_then ?_
 rcases gx_bif hm with ⟨bz, hm⟩ | ⟨bz, hm⟩
 ·refine gT bz (G_seq (G_region (wR 1 [(2, .bool false)] cn (W_nil (N_then (G_ret (N_then_ret ?_)))))))
  obtain rfl := Option.some.inj hm
  exact N_ret [.bool false] (rC RVs_nil) (⟨rfl, be.pk []⟩)
 refine gF bz (G_skip (N_then (G_seq (G_region (wR 1 [(0, .slice d b.length c), (183, .slice d b.length c)] cn ?_)))))
 obtain ⟨g, fp, hm⟩ := gx_bind hm
 refine wC 44 #[.slice d b.length c] ((c_s_DrawSetGoal cn b d c (ao.mem0 be) fp).mono ?_)
 rintro e_ co ⟨R, I, h6, S, J, h7, h8, rfl, c7, c8, d3⟩
 have bf := be.call d3
 refine ⟨_, rfl, ?_⟩
 refine wR 9 [(0, .slice d b.length c), (33, .slice R g.1.length I), (34, .slice S g.2.1.length J), (35, iv g.2.2.1), (36, iv g.2.2.2)] co (W_nil (N_then (G_seq (G_region (wR 4 [(0, .slice d b.length c), (33, .slice R g.1.length I), (34, .slice S g.2.1.length J), (35, iv g.2.2.1), (36, iv g.2.2.2), (190, .slice R g.1.length I), (191, .slice S g.2.1.length J), (192, iv g.2.2.1), (193, iv g.2.2.2)] co ?_)))))
 obtain ⟨o, fq, hm⟩ := gx_bind hm
 refine wC 23 #[.slice R g.1.length I, .slice S g.2.1.length J, iv g.2.2.1, iv g.2.2.2] ((c_i_SetGoal co g.1 R I (c7.rd bf 0 (by kernel_rfl)) g.2.1 S J (c8.rd bf 1 (by kernel_rfl) 2 (by kernel_rfl)) g.2.2.1 g.2.2.2 fq).mono ?_)
 rintro e_ cp ⟨q, t, cc, cd, rfl, c9, d4⟩
 have bg := bf.call d4
 refine ⟨_, rfl, ?_⟩
 refine wR 5 [(0, .slice d b.length c), (33, .slice R g.1.length I), (34, .slice S g.2.1.length J), (35, iv g.2.2.1), (36, iv g.2.2.2), (37, .slice q o.1.length t), (38, .bool o.2)] cp (W_nil (N_then (G_seq (G_seq (G_region (wR 4 [(0, .slice d b.length c), (35, iv g.2.2.1), (36, iv g.2.2.2), (37, .slice q o.1.length t), (38, .bool o.2), (198, .slice R g.1.length I), (199, .slice S g.2.1.length J), (200, iv g.2.2.1), (201, iv g.2.2.2)] cp ?_))))))
 obtain ⟨ab, fr, hm⟩ := gx_bind hm
 refine wC 22 #[.slice R g.1.length I, .slice S g.2.1.length J, iv g.2.2.1, iv g.2.2.2] ((c_s_SetGoal cp g.1 R I (c7.rd bg 0 (by kernel_rfl)) g.2.1 S J (c8.rd bg 1 (by kernel_rfl) 2 (by kernel_rfl)) g.2.2.1 g.2.2.2 fr).mono ?_)
 rintro e_ av ⟨aq, an, h9, ia, rfl, e7, d5⟩
 have az := bg.call d5
 refine ⟨_, rfl, ?_⟩
 refine wR 5 [(0, .slice d b.length c), (35, iv g.2.2.1), (36, iv g.2.2.2), (37, .slice q o.1.length t), (38, .bool o.2), (39, .slice aq ab.1.length an), (40, .bool ab.2)] av (W_nil (N_then (G_seq ?_)))
 obtain ⟨f5, e8, ev⟩ := gx_bind hm
 refine G_meet (fun a w' => Mem [] w w' [cc, cd] ∧ Sat Try.f12.ntmps [(0, .slice d b.length c), (35, iv g.2.2.1), (36, iv g.2.2.2), (37, .slice q o.1.length t), (213, .bool f5)] a) ?_ ?_
 ·have hm := e8
  refine G_region (wR 4 [(0, .slice d b.length c), (35, iv g.2.2.1), (36, iv g.2.2.2), (37, .slice q o.1.length t), (39, .slice aq ab.1.length an), (208, .bool (!(o.2 == ab.2)))] av ?_)
  rcases gx_bif hm with ⟨b0, hm⟩ | ⟨b0, hm⟩
  ·refine wK 208 true b0 (wR 5 [(0, .slice d b.length c), (35, iv g.2.2.1), (36, iv g.2.2.2), (37, .slice q o.1.length t), (213, .bool true)] av (W_nil ?_))
   obtain rfl := Option.some.inj hm
   exact N_meet fun a ha => ⟨az.pk [3, 4], ha.s⟩
  refine wK 208 false b0 (wR 2 [(0, .slice d b.length c), (35, iv g.2.2.1), (36, iv g.2.2.2), (37, .slice q o.1.length t), (208, .bool false), (209, .slice q o.1.length t), (210, .slice aq ab.1.length an)] av ?_)
  obtain ⟨gc, fs, hm⟩ := gx_bind hm
  refine wC 41 #[.slice q o.1.length t, .slice aq ab.1.length an] ((c_l_rBalloons av o.1 q t (c9.rd az 3 (by kernel_rfl) 4 (by kernel_rfl)) ab.1 aq an (e7.rd az 5 (by kernel_rfl) 6 (by kernel_rfl)) fs).mono ?_)
  rintro e_ gj ⟨rfl, d6⟩
  have ec := az.call0 d6
  refine ⟨_, rfl, ?_⟩
  refine wR 2 [(0, .slice d b.length c), (35, iv g.2.2.1), (36, iv g.2.2.2), (37, .slice q o.1.length t), (213, .bool (!gc))] gj (W_nil ?_)
  obtain rfl := Option.some.inj hm
  exact N_meet fun a ha => ⟨ec.pk [3, 4], ha.s⟩
 intro gr dk ⟨cx, el⟩
 refine N_use el ?_
 have hm := ev
 refine N_then ?_
 rcases gx_bif hm with ⟨b1, hm⟩ | ⟨b1, hm⟩
 ·refine gT b1 (G_seq (G_region (wR 1 [(2, .bool false)] dk (W_nil (N_then (G_ret (N_then_ret ?_)))))))
  obtain rfl := Option.some.inj hm
  exact N_ret [.bool false] (rC RVs_nil) (⟨rfl, cx.pk []⟩)
 refine gF b1 (G_skip (N_then (G_seq (G_seq (G_region (wR 1 [(0, .slice d b.length c), (35, iv g.2.2.1), (36, iv g.2.2.2), (37, .slice q o.1.length t), (41, iv 0)] dk (W_nil (N_then ?_))))))))
 obtain ⟨f8, fx, c1⟩ := gx_bind hm
 refine G_meet (fun a w' => ∃ (df : Unit), f8 = .inl df ∧ Mem [] w w' [] ∧ Sat Try.f12.ntmps [(0, .slice d b.length c)] a) ?_ ?_
 ·refine G_block (G_while (σ := Int) (ρ := (Unit) ⊕ (Bool)) (fun v a w' => Mem [] w w' [cc, cd] ∧ Sat Try.f12.ntmps [(0, .slice d b.length c), (35, iv g.2.2.1), (36, iv g.2.2.2), (37, .slice q o.1.length t), (41, iv v)] a) fx (fun a ha => ⟨cx.pk [0, 1], ha.s⟩) ?_)
  clear hm
  intro v ii hm dc gs C ⟨D, em⟩
  refine G_use em (G_seq (G_seq (G_region (wR 4 [(0, .slice d b.length c), (35, iv g.2.2.1), (36, iv g.2.2.2), (37, .slice q o.1.length t), (41, iv v), (217, .bool (decide (v < (o.1.length : Int))))] C (W_nil (N_then ?_))))))
  rcases gx_bif hm with ⟨b2, hm⟩ | ⟨b2, hm⟩
  ·refine gT b2 (G_skip (N_then (G_seq (G_block (G_seq ?_)))))
   obtain ⟨f6, e9, ew⟩ := gx_bind hm
   refine G_meet (fun a w' => Mem [] w w' [cc, cd] ∧ Sat Try.f12.ntmps [(0, .slice d b.length c), (35, iv g.2.2.1), (36, iv g.2.2.2), (37, .slice q o.1.length t), (41, iv v), (235, .bool f6)] a) ?_ ?_
   ·have hm := e9
    refine G_region (wR 2 [(0, .slice d b.length c), (35, iv g.2.2.1), (36, iv g.2.2.2), (37, .slice q o.1.length t), (41, iv v), (220, .slice q o.1.length t), (221, iv v)] C ?_)
    obtain ⟨dn, fz, hm⟩ := gx_bind hm
    obtain ⟨ik, a4, af, g6⟩ := id c9
    obtain ⟨g3, b8⟩ := gxIdx_fst a4 fz
    refine wV (elemP q (v.toNat * 3)) C (eI (af.rd D 0 (by kernel_rfl)) (len_fst a4) b8) (wV (elemP q (v.toNat * 3 + 0)) C (eF 0 (v.toNat * 3) 0 (af.rd D 0 (by kernel_rfl)) b8) (wV (iv dn.Guest) C (eE false 1 0 (v.toNat * 3 + 0) (af.rd D 0 (by kernel_rfl)) b8) (wR 3 [(0, .slice d b.length c), (35, iv g.2.2.1), (36, iv g.2.2.2), (37, .slice q o.1.length t), (41, iv v), (227, .bool (dn.Guest == g.2.2.1))] C ?_)))
    rcases gx_bif hm with ⟨b3, hm⟩ | ⟨b3, hm⟩
    ·refine wK 227 true b3 (wR 2 [(0, .slice d b.length c), (35, iv g.2.2.1), (36, iv g.2.2.2), (37, .slice q o.1.length t), (41, iv v), (227, .bool true), (228, .slice q o.1.length t), (229, iv v)] C ?_)
     obtain ⟨dp, f0, hm⟩ := gx_bind hm
     obtain ⟨g4, b9⟩ := gxIdx_fst a4 f0
     refine wV (elemP q (v.toNat * 3)) C (eI (af.rd D 0 (by kernel_rfl)) (len_fst a4) b9) (wV (elemP q (v.toNat * 3 + 1)) C (eF 1 (v.toNat * 3) 1 (af.rd D 0 (by kernel_rfl)) b9) (wV (iv dp.Goal) C (eE false 1 1 (v.toNat * 3 + 1) (af.rd D 0 (by kernel_rfl)) b9) (wR 3 [(0, .slice d b.length c), (35, iv g.2.2.1), (36, iv g.2.2.2), (37, .slice q o.1.length t), (41, iv v), (235, .bool (dp.Goal != g.2.2.2))] C (W_nil ?_))))
     obtain rfl := Option.some.inj hm
     exact N_meet fun a ha => ⟨D.pk [0, 1], ha.s⟩
    refine wK 227 false b3 (wR 8 [(0, .slice d b.length c), (35, iv g.2.2.1), (36, iv g.2.2.2), (37, .slice q o.1.length t), (41, iv v), (235, .bool false)] C (W_nil ?_))
    obtain rfl := Option.some.inj hm
    exact N_meet fun a ha => ⟨D.pk [0, 1], ha.s⟩
   intro gt dl ⟨cy, en⟩
   refine N_use en ?_
   have hm := ew
   refine N_then ?_
   rcases gx_bif hm with ⟨b4, hm⟩ | ⟨b4, hm⟩
   ·refine gT b4 (G_seq (G_region (wR 1 [(2, .bool false)] dl (W_nil (N_then (G_ret (N_block_ret (N_then_ret (N_then_ret ?_)))))))))
    obtain rfl := Option.some.inj hm
    obtain rfl := dc _ rfl
    have hm := c1; simp only [Sum.elim_inr] at hm
    refine N_block_ret (N_meet_ret (N_then_ret ?_))
    obtain rfl := Option.some.inj hm
    exact N_ret [.bool false] (rC RVs_nil) (⟨rfl, cy.pk []⟩)
   refine gF b4 (G_skip (N_block (N_then (G_region (wR 3 [(0, .slice d b.length c), (35, iv g.2.2.1), (36, iv g.2.2.2), (37, .slice q o.1.length t), (41, iv (w64 (v + 1)))] dl (W_nil ?_))))))
   obtain rfl := Option.some.inj hm
   exact N_loop fun a ha => ⟨_, rfl, cy.pk [0, 1], ha.s⟩
  refine gF b2 (G_exit (N_then_exit (N_then_exit (N_block_eq ?_))))
  obtain rfl := Option.some.inj hm
  obtain rfl := dc _ rfl
  exact N_meet fun a ha => ⟨_, rfl, D.pk [], ha.s⟩
 intro gu dm ⟨df, hout_, cz, eo⟩
 refine N_use eo ?_
 subst hout_
 have hm := c1; simp only [Sum.elim_inl] at hm
 refine N_then (G_seq (G_region (wR 1 [(237, .slice d b.length c)] dm ?_)))
 obtain ⟨z, ft, hm⟩ := gx_bind hm
 refine wC 45 #[.slice d b.length c] ((c_s_DrawGivenFrames dm b d c (ao.mem0 cz) ft).mono ?_)
 rintro e_ cq ⟨T, K, ib, U, L, ic, ie, rfl, da, db, d7⟩
 have bh := cz.call d7
 refine ⟨_, rfl, ?_⟩
 refine wR 5 [(42, .slice T z.1.length K), (43, .slice U z.2.length L)] cq (W_nil (N_then (G_seq (G_region (wR 2 [(42, .slice T z.1.length K), (43, .slice U z.2.length L), (242, .slice T z.1.length K), (243, .slice U z.2.length L)] cq ?_)))))
 obtain ⟨B, fu, hm⟩ := gx_bind hm
 refine wC 21 #[.slice T z.1.length K, .slice U z.2.length L] ((c_i_GivenFrames cq z.1 T K (da.rd bh 0 (by kernel_rfl)) z.2 U L (db.rd bh 1 (by kernel_rfl) 2 (by kernel_rfl)) fu).mono ?_)
 rintro e_ cr ⟨rfl, d8⟩
 have bi := bh.call0 d8
 refine ⟨_, rfl, ?_⟩
 refine wR 7 [(42, .slice T z.1.length K), (43, .slice U z.2.length L), (44, iv B.1), (45, iv B.2.1), (46, .bool B.2.2)] cr (W_nil (N_then (G_seq (G_region (wR 2 [(44, iv B.1), (45, iv B.2.1), (46, .bool B.2.2), (249, .slice T z.1.length K), (250, .slice U z.2.length L)] cr ?_)))))
 obtain ⟨W, fv, hm⟩ := gx_bind hm
 refine wC 20 #[.slice T z.1.length K, .slice U z.2.length L] ((c_s_GivenFrames cr z.1 T K (da.rd bi 0 (by kernel_rfl)) z.2 U L (db.rd bi 1 (by kernel_rfl) 2 (by kernel_rfl)) fv).mono ?_)
 rintro e_ ai ⟨rfl, d9⟩
 have bj := bi.call0 d9
 refine ⟨_, rfl, ?_⟩
 refine wR 7 [(44, iv B.1), (45, iv B.2.1), (46, .bool B.2.2), (47, iv W.1), (48, iv W.2.1), (49, .bool W.2.2)] ai (W_nil (N_then (G_seq ?_)))
 obtain ⟨dg, fa, ex⟩ := gx_bind hm
 refine G_meet (fun a w' => Mem [] w w' [] ∧ Sat Try.f12.ntmps [(2, .bool dg)] a) ?_ ?_
 ·have hm := fa
  refine G_region (wR 4 [(45, iv B.2.1), (46, .bool B.2.2), (48, iv W.2.1), (49, .bool W.2.2), (258, .bool (B.1 == W.1))] ai ?_)
  rcases gx_bif hm with ⟨b5, hm⟩ | ⟨b5, hm⟩
  ·refine wK 258 true b5 (wR 5 [(46, .bool B.2.2), (49, .bool W.2.2), (263, .bool (B.2.1 == W.2.1))] ai ?_)
   rcases gx_bif hm with ⟨b6, hm⟩ | ⟨b6, hm⟩
   ·refine wK 263 true b6 (wR 5 [(2, .bool (B.2.2 == W.2.2))] ai (W_nil ?_))
    obtain rfl := Option.some.inj hm
    exact N_meet fun a ha => ⟨bj.pk [], ha.s⟩
   refine wK 263 false b6 (wR 5 [(2, .bool false)] ai (W_nil ?_))
   obtain rfl := Option.some.inj hm
   exact N_meet fun a ha => ⟨bj.pk [], ha.s⟩
  refine wK 258 false b5 (wR 10 [(2, .bool false)] ai (W_nil ?_))
  obtain rfl := Option.some.inj hm
  exact N_meet fun a ha => ⟨bj.pk [], ha.s⟩
 intro gv ig ⟨ed, ep⟩
 refine N_use ep ?_
 have hm := ex
 refine N_then (G_ret ?_)
 obtain rfl := Option.some.inj hm
 exact N_ret [.bool dg] (rC RVs_nil) (⟨rfl, ed.pk []⟩)
end Go.Proofs.Ytlfligjpmodefaa
