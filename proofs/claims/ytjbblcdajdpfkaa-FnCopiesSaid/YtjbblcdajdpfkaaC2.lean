/- The walks, printed by program: whenever the model gives r, the call returns r. Part 2. -/
import Derived.Test.YtjbblcdajdpfkaaM
import Derived.Test.YtjbblcdajdpfkaaGxZ
import Derived.Test.YtjbblcdajdpfkaaProg
import Derived.Test.YtjbblcdajdpfkaaC1
set_option linter.unusedVariables false
set_option maxRecDepth 100000
set_option maxHeartbeats 4000000
namespace Go.Proofs.Ytjbblcdajdpfkaa
open Go.Gx
theorem c_l_FnExactStartCopy (w : World) (f : List Int) (h : Option Addr) (g : Nat) (aa : rdS Gx.encI w f h g) {r : Bool} (hm : M.l_FnExactStartCopy f = some r) :
  Calls Try.prog 4 #[.slice h f.length g] w fun e w' => e = .returned (.bool r) ∧ Mem [] w w' [] := by
 unfold M.l_FnExactStartCopy at hm
 refine cE Try.func4 ?_
 have M0 := Mem.refl [] w
 refine G_seq (G_region (wR 1 [(0, .slice h f.length g)] w (W_nil (N_then (G_seq (G_seq (G_region (wR 3 [(0, .slice h f.length g), (15, .bool (decide ((f.length : Int) > 1048576)))] w (W_nil (N_then ?_))))))))))
 rcases gx_bif hm with ⟨aw, hm⟩ | ⟨aw, hm⟩
 ·refine gT aw (G_seq (G_region (wR 1 [(2, .bool true)] w (W_nil (N_then (G_ret (N_then_ret ?_)))))))
  obtain rfl := Option.some.inj hm
  exact N_ret [.bool true] (rC RVs_nil) (⟨rfl, M0.pk []⟩)
 refine gF aw (G_skip (N_then (G_seq (G_region (wR 1 [(0, .slice h f.length g), (17, .slice h f.length g)] w ?_)))))
 obtain ⟨b6, ds, hm⟩ := gx_bind hm
 refine wC 19 #[.slice h f.length g] ((c_l_toIntS w f h g (aa.mem0 M0) ds).mono ?_)
 rintro e_ d5 ⟨b3, bv, eg, rfl, dc, cp⟩
 have bs := M0.call cp
 refine ⟨_, rfl, ?_⟩
 obtain ⟨b, dd, hm⟩ := gx_bind hm
 refine wC 18 #[.slice b3 b6.length bv] ((c_s_StartCopy d5 b6 b3 bv (dc.rd bs 0 (by kernel_rfl)) dd).mono ?_)
 rintro e_ d0 ⟨B, y, ba, C, z, bb, D, A, bc, rfl, a0, a3, a4, cb⟩
 have cq := bs.call cb
 refine ⟨_, rfl, ?_⟩
 refine wR 3 [(0, .slice h f.length g), (20, .agg #[.slice B b.1.Memory.length y, .slice C b.1.Copy.length z, .slice D b.1.Dirty.length A]), (21, .bool b.2)] d0 (wN (.cells ⟨[.slice none 0 0, .slice none 0 0, .slice none 0 0]⟩ 28 (0, 0)) cq ?_)
 intro j eh cr
 refine wS true 3 0 (.agg #[.slice B b.1.Memory.length y, .slice C b.1.Copy.length z, .slice D b.1.Dirty.length A]) 4 [.slice B b.1.Memory.length y, .slice C b.1.Copy.length z, .slice D b.1.Dirty.length A] cr rfl ?_
 intro bg bm
 refine wR 1 [(0, .slice h f.length g), (3, pB j 0), (4, .bool b.2)] bg (W_nil (N_then (G_seq (G_region (wR 1 [(0, .slice h f.length g), (3, pB j 0), (4, .bool b.2), (22, .slice h f.length g)] bg ?_)))))
 obtain ⟨v, de, hm⟩ := gx_bind hm
 refine wC 19 #[.slice h f.length g] ((c_l_toIntS bg f h g (aa.mem0 bm) de).mono ?_)
 rintro e_ bh ⟨u, t, b7, rfl, a5, cc⟩
 have bn := bm.call cc
 refine ⟨_, rfl, ?_⟩
 refine wR 1 [(0, .slice h f.length g), (3, pB j 0), (4, .bool b.2), (5, .slice u v.length t)] bh (W_nil (N_then (G_seq (G_region (wR 1 [(0, .slice h f.length g), (3, pB j 0), (4, .bool b.2), (5, .slice u v.length t), (25, .slice u v.length t)] bh ?_)))))
 obtain ⟨c, df, hm⟩ := gx_bind hm
 refine wC 20 #[.slice u v.length t] ((c_i_StartCopy bh v u t (a5.rd bn 5 (by kernel_rfl)) df).mono ?_)
 rintro e_ d1 ⟨n, k, bd, o, l, be, q, m, bf, rfl, a6, a7, a8, cd⟩
 have cs := bn.call cd
 refine ⟨_, rfl, ?_⟩
 refine wR 3 [(0, .slice h f.length g), (3, pB j 0), (4, .bool b.2), (5, .slice u v.length t), (27, .agg #[.slice n c.1.Memory.length k, .slice o c.1.Copy.length l, .slice q c.1.Dirty.length m]), (28, .bool c.2)] d1 (wN (.cells ⟨[.slice none 0 0, .slice none 0 0, .slice none 0 0]⟩ 28 (0, 0)) cs ?_)
 intro i ei ct
 refine wS true 3 0 (.agg #[.slice n c.1.Memory.length k, .slice o c.1.Copy.length l, .slice q c.1.Dirty.length m]) 9 [.slice n c.1.Memory.length k, .slice o c.1.Copy.length l, .slice q c.1.Dirty.length m] ct rfl ?_
 intro ad F
 refine wR 1 [(0, .slice h f.length g), (3, pB j 0), (4, .bool b.2), (5, .slice u v.length t), (6, pB i 0), (7, .bool c.2)] ad (W_nil (N_then (G_seq (G_seq ?_))))
 obtain ⟨dt, c4, c1⟩ := gx_bind hm
 refine G_meet (fun a w' => Mem [] w w' [ba, bb, bc, [(j, .cells ⟨[.slice B b.1.Memory.length y, .slice C b.1.Copy.length z, .slice D b.1.Dirty.length A]⟩ 28 (0, 0))], b7, bd, be, bf, [(i, .cells ⟨[.slice n c.1.Memory.length k, .slice o c.1.Copy.length l, .slice q c.1.Dirty.length m]⟩ 28 (0, 0))]] ∧ Sat Try.f4.ntmps [(0, .slice h f.length g), (3, pB j 0), (4, .bool b.2), (5, .slice u v.length t), (6, pB i 0), (7, .bool c.2), (37, .bool dt)] a) ?_ ?_
 ·have hm := c4
  refine G_region (wV (.agg #[.slice n c.1.Memory.length k, .slice o c.1.Copy.length l, .slice q c.1.Dirty.length m]) ad (eL true 3 0 (F.blk 9 rfl)) (wV (.agg #[.slice B b.1.Memory.length y, .slice C b.1.Copy.length z, .slice D b.1.Dirty.length A]) ad (eL true 3 0 (F.blk 4 rfl)) ?_))
  obtain ⟨dw, dg, hm⟩ := gx_bind hm
  refine wC 17 #[.agg #[.slice n c.1.Memory.length k, .slice o c.1.Copy.length l, .slice q c.1.Dirty.length m], .agg #[.slice B b.1.Memory.length y, .slice C b.1.Copy.length z, .slice D b.1.Dirty.length A]] ((c_l_eqCopying ad c.1 n k (a6.rd F 6 (by kernel_rfl)) o l (a7.rd F 7 (by kernel_rfl)) q m (a8.rd F 8 (by kernel_rfl)) b.1 B y (a0.rd F 1 (by kernel_rfl)) C z (a3.rd F 2 (by kernel_rfl)) D A (a4.rd F 3 (by kernel_rfl)) dg).mono ?_)
  rintro e_ bi ⟨rfl, ce⟩
  have bo := F.call0 ce
  refine ⟨_, rfl, ?_⟩
  refine wR 2 [(0, .slice h f.length g), (3, pB j 0), (4, .bool b.2), (5, .slice u v.length t), (6, pB i 0), (7, .bool c.2), (33, .bool (!dw))] bi ?_
  rcases gx_bif hm with ⟨ai, hm⟩ | ⟨ai, hm⟩
  ·refine wK 33 true ai (wR 4 [(0, .slice h f.length g), (3, pB j 0), (4, .bool b.2), (5, .slice u v.length t), (6, pB i 0), (7, .bool c.2), (37, .bool true)] bi (W_nil ?_))
   obtain rfl := Option.some.inj hm
   exact N_meet fun a ha => ⟨bo.pk [1, 2, 3, 4, 5, 6, 7, 8, 9], ha.s⟩
  refine wK 33 false ai (wR 4 [(0, .slice h f.length g), (3, pB j 0), (4, .bool b.2), (5, .slice u v.length t), (6, pB i 0), (7, .bool c.2), (37, .bool (!(c.2 == b.2)))] bi (W_nil ?_))
  obtain rfl := Option.some.inj hm
  exact N_meet fun a ha => ⟨bo.pk [1, 2, 3, 4, 5, 6, 7, 8, 9], ha.s⟩
 intro d6 bj ⟨af, cy⟩
 refine N_use cy ?_
 have hm := c1
 refine N_then ?_
 rcases gx_bif hm with ⟨aj, hm⟩ | ⟨aj, hm⟩
 ·refine gT aj (G_seq (G_region (wR 1 [(2, .bool false)] bj (W_nil (N_then (G_ret (N_then_ret ?_)))))))
  obtain rfl := Option.some.inj hm
  exact N_ret [.bool false] (rC RVs_nil) (⟨rfl, af.pk []⟩)
 refine gF aj (G_skip (N_then (G_seq (G_seq (G_region (wR 2 [(0, .slice h f.length g), (3, pB j 0), (4, .bool b.2), (5, .slice u v.length t), (6, pB i 0), (7, .bool c.2), (38, .slice u v.length t), (39, .slice h f.length g)] bj ?_))))))
 obtain ⟨b4, dh, hm⟩ := gx_bind hm
 refine wC 19 #[.slice h f.length g] ((c_l_toIntS bj f h g (aa.mem0 af) dh).mono ?_)
 rintro e_ d2 ⟨b1, bt, ea, rfl, c5, cf⟩
 have ag := af.call cf
 refine ⟨_, rfl, ?_⟩
 obtain ⟨dx, di, hm⟩ := gx_bind hm
 refine wC 21 #[.slice u v.length t, .slice b1 b4.length bt] ((c_l_eqIntS d2 v u t (a5.rd ag 4 (by kernel_rfl)) b4 b1 bt (c5.rd ag 9 (by kernel_rfl)) di).mono ?_)
 rintro e_ V ⟨rfl, cg⟩
 have Y := ag.call0 cg
 refine ⟨_, rfl, ?_⟩
 refine wR 1 [(0, .slice h f.length g), (3, pB j 0), (4, .bool b.2), (5, .slice u v.length t), (6, pB i 0), (7, .bool c.2), (42, .bool (!dx))] V (W_nil (N_then ?_))
 rcases gx_bif hm with ⟨ak, hm⟩ | ⟨ak, hm⟩
 ·refine gT ak (G_seq (G_region (wR 1 [(2, .bool false)] V (W_nil (N_then (G_ret (N_then_ret ?_)))))))
  obtain rfl := Option.some.inj hm
  exact N_ret [.bool false] (rC RVs_nil) (⟨rfl, Y.pk []⟩)
 refine gF ak (G_skip (N_then (G_seq (G_region (wR 1 [(0, .slice h f.length g), (3, pB j 0), (4, .bool b.2), (5, .slice u v.length t), (6, pB i 0), (7, .bool c.2), (8, iv 1)] V (W_nil (N_then (G_seq (G_region (wR 2 [(0, .slice h f.length g), (3, pB j 0), (4, .bool b.2), (6, pB i 0), (7, .bool c.2), (8, iv 1), (43, .slice u v.length t), (44, iv 1)] V ?_))))))))))
 obtain ⟨a9, dj, hm⟩ := gx_bind hm
 refine wC 22 #[.slice u v.length t, iv 1] ((c_l_markIntS V v u t b7 a5 1 (Y.hasPick [4]) (Y.nodupPick [4] (by kernel_rfl)) dj).mono ?_)
 rintro e_ Q ⟨eb, rfl, d9, bw, ch⟩
 have E := Y.callF' [4] [0, 1, 2, 3, 5, 6, 7, 8, 9] (by kernel_rfl) ch
 refine ⟨_, rfl, ?_⟩
 refine wX 43 (.slice u v.length t) (.slice u a9.2.length t) (by first | rw [bw] | rw [bw]) (wR 1 [(0, .slice h f.length g), (3, pB j 0), (4, .bool b.2), (6, pB i 0), (7, .bool c.2), (8, iv a9.1)] Q (W_nil (N_then (G_seq (G_seq ?_)))))
 obtain ⟨du, c6, c2⟩ := gx_bind hm
 refine G_meet (fun a w' => Mem [] w w' [ba, bb, bc, [(j, .cells ⟨[.slice B b.1.Memory.length y, .slice C b.1.Copy.length z, .slice D b.1.Dirty.length A]⟩ 28 (0, 0))], bd, be, bf, [(i, .cells ⟨[.slice n c.1.Memory.length k, .slice o c.1.Copy.length l, .slice q c.1.Dirty.length m]⟩ 28 (0, 0))]] ∧ Sat Try.f4.ntmps [(0, .slice h f.length g), (3, pB j 0), (4, .bool b.2), (6, pB i 0), (58, .bool du)] a) ?_ ?_
 ·have hm := c6
  refine G_region (wR 3 [(0, .slice h f.length g), (3, pB j 0), (4, .bool b.2), (6, pB i 0), (7, .bool c.2), (48, .bool (decide (a9.1 < 0)))] Q ?_)
  rcases gx_bif hm with ⟨al, hm⟩ | ⟨al, hm⟩
  ·refine wK 48 true al (wR 10 [(0, .slice h f.length g), (3, pB j 0), (4, .bool b.2), (6, pB i 0), (58, .bool true)] Q (W_nil ?_))
   obtain rfl := Option.some.inj hm
   exact N_meet fun a ha => ⟨E.pk [0, 1, 2, 3, 4, 5, 6, 7], ha.s⟩
  refine wK 48 false al (wV (.agg #[.slice n c.1.Memory.length k, .slice o c.1.Copy.length l, .slice q c.1.Dirty.length m]) Q (eL true 3 0 (E.blk 7 rfl)) (wV (.agg #[.slice B b.1.Memory.length y, .slice C b.1.Copy.length z, .slice D b.1.Dirty.length A]) Q (eL true 3 0 (E.blk 3 rfl)) ?_))
  obtain ⟨dy, dk, hm⟩ := gx_bind hm
  refine wC 17 #[.agg #[.slice n c.1.Memory.length k, .slice o c.1.Copy.length l, .slice q c.1.Dirty.length m], .agg #[.slice B b.1.Memory.length y, .slice C b.1.Copy.length z, .slice D b.1.Dirty.length A]] ((c_l_eqCopying Q c.1 n k (a6.rd E 4 (by kernel_rfl)) o l (a7.rd E 5 (by kernel_rfl)) q m (a8.rd E 6 (by kernel_rfl)) b.1 B y (a0.rd E 0 (by kernel_rfl)) C z (a3.rd E 1 (by kernel_rfl)) D A (a4.rd E 2 (by kernel_rfl)) dk).mono ?_)
  rintro e_ bk ⟨rfl, ci⟩
  have bp := E.call0 ci
  refine ⟨_, rfl, ?_⟩
  refine wR 3 [(0, .slice h f.length g), (3, pB j 0), (4, .bool b.2), (6, pB i 0), (7, .bool c.2), (54, .bool (!dy))] bk ?_
  rcases gx_bif hm with ⟨am, hm⟩ | ⟨am, hm⟩
  ·refine wK 54 true am (wR 4 [(0, .slice h f.length g), (3, pB j 0), (4, .bool b.2), (6, pB i 0), (58, .bool true)] bk (W_nil ?_))
   obtain rfl := Option.some.inj hm
   exact N_meet fun a ha => ⟨bp.pk [0, 1, 2, 3, 4, 5, 6, 7], ha.s⟩
  refine wK 54 false am (wR 4 [(0, .slice h f.length g), (3, pB j 0), (4, .bool b.2), (6, pB i 0), (58, .bool (!(c.2 == b.2)))] bk (W_nil ?_))
  obtain rfl := Option.some.inj hm
  exact N_meet fun a ha => ⟨bp.pk [0, 1, 2, 3, 4, 5, 6, 7], ha.s⟩
 intro d7 W ⟨T, cz⟩
 refine N_use cz ?_
 have hm := c2
 refine N_then ?_
 rcases gx_bif hm with ⟨an, hm⟩ | ⟨an, hm⟩
 ·refine gT an (G_seq (G_region (wR 1 [(2, .bool false)] W (W_nil (N_then (G_ret (N_then_ret ?_)))))))
  obtain rfl := Option.some.inj hm
  exact N_ret [.bool false] (rC RVs_nil) (⟨rfl, T.pk []⟩)
 refine gF an (G_skip (N_then (G_seq (G_region (wR 1 [(0, .slice h f.length g), (3, pB j 0), (4, .bool b.2), (6, pB i 0), (9, iv 1)] W (W_nil (N_then (G_seq (G_region (wV (.agg #[.slice n c.1.Memory.length k, .slice o c.1.Copy.length l, .slice q c.1.Dirty.length m]) W (eL true 3 0 (T.blk 7 rfl)) (wR 1 [(0, .slice h f.length g), (3, pB j 0), (4, .bool b.2), (6, pB i 0), (9, iv 1), (59, .agg #[.slice n c.1.Memory.length k, .slice o c.1.Copy.length l, .slice q c.1.Dirty.length m]), (60, iv 1)] W ?_)))))))))))
 obtain ⟨d, dl, hm⟩ := gx_bind hm
 refine wC 23 #[.agg #[.slice n c.1.Memory.length k, .slice o c.1.Copy.length l, .slice q c.1.Dirty.length m], iv 1] ((c_l_markCopying W c.1 n k bd a6 o l be a7 q m bf a8 1 (T.hasPick [4, 5, 6]) (T.nodupPick [4, 5, 6] (by kernel_rfl)) dl).mono ?_)
 rintro e_ R ⟨b8, b9, ca, rfl, bx, ax, bz, ay, b0, az, cj⟩
 have cu := T.callF' [4, 5, 6] [0, 1, 2, 3, 7] (by kernel_rfl) cj
 refine ⟨_, rfl, ?_⟩
 refine wX 59 (.agg #[.slice n c.1.Memory.length k, .slice o c.1.Copy.length l, .slice q c.1.Dirty.length m]) (.agg #[.slice n d.2.1.length k, .slice o d.2.2.1.length l, .slice q d.2.2.2.length m]) (by first | rw [ax, ay, az] | rw [ax] | rw [ay] | rw [az]) ?_
 have U : Mem [] w R [ba, bb, bc, [(j, .cells ⟨[.slice B b.1.Memory.length y, .slice C b.1.Copy.length z, .slice D b.1.Dirty.length A]⟩ 28 (0, 0))], [(i, .cells ⟨[.slice n d.2.1.length k, .slice o d.2.2.1.length l, .slice q d.2.2.2.length m]⟩ 28 (0, 0))], b8, b9, ca] := by rw [ax, ay, az]; exact cu
 refine wR 1 [(0, .slice h f.length g), (3, pB j 0), (4, .bool b.2), (6, pB i 0), (9, iv d.1)] R (W_nil (N_then (G_seq (G_region (wR 1 [(0, .slice h f.length g), (3, pB j 0), (4, .bool b.2), (6, pB i 0), (9, iv d.1), (10, iv 1)] R (W_nil (N_then (G_seq (G_region (wV (.agg #[.slice n d.2.1.length k, .slice o d.2.2.1.length l, .slice q d.2.2.2.length m]) R (eL true 3 0 (U.blk 4 rfl)) (wR 1 [(0, .slice h f.length g), (3, pB j 0), (4, .bool b.2), (6, pB i 0), (9, iv d.1), (10, iv 1), (62, .agg #[.slice n d.2.1.length k, .slice o d.2.2.1.length l, .slice q d.2.2.2.length m]), (63, iv 1)] R ?_)))))))))))
 obtain ⟨ab, dm, hm⟩ := gx_bind hm
 refine wC 24 #[.agg #[.slice n d.2.1.length k, .slice o d.2.2.1.length l, .slice q d.2.2.2.length m], iv 1] ((c_l_heldCopying R (⟨d.2.1, d.2.2.1, d.2.2.2⟩ : Copying) n k (bx.rd U 5 (by kernel_rfl)) o l (bz.rd U 6 (by kernel_rfl)) q m (b0.rd U 7 (by kernel_rfl)) 1 dm).mono ?_)
 rintro e_ H ⟨rfl, ck⟩
 have Z := U.call0 ck
 refine ⟨_, rfl, ?_⟩
 refine wR 1 [(0, .slice h f.length g), (3, pB j 0), (4, .bool b.2), (6, pB i 0), (9, iv d.1), (10, iv ab)] H (W_nil (N_then (G_seq (G_seq (G_region (wR 2 [(0, .slice h f.length g), (3, pB j 0), (4, .bool b.2), (6, pB i 0), (9, iv d.1), (10, iv ab), (66, .bool (decide (ab < 0)))] H (W_nil (N_then ?_))))))))
 rcases gx_bif hm with ⟨ao, hm⟩ | ⟨ao, hm⟩
 ·refine gT ao (G_seq (G_region (wR 1 [(2, .bool false)] H (W_nil (N_then (G_ret (N_then_ret ?_)))))))
  obtain rfl := Option.some.inj hm
  exact N_ret [.bool false] (rC RVs_nil) (⟨rfl, Z.pk []⟩)
 refine gF ao (G_skip (N_then (G_seq (G_seq (G_region (wR 3 [(0, .slice h f.length g), (3, pB j 0), (4, .bool b.2), (6, pB i 0), (9, iv d.1), (69, .bool (ab != d.1))] H (W_nil (N_then ?_))))))))
 rcases gx_bif hm with ⟨ap, hm⟩ | ⟨ap, hm⟩
 ·refine gT ap (G_seq (G_region (wR 1 [(2, .bool false)] H (W_nil (N_then (G_ret (N_then_ret ?_)))))))
  obtain rfl := Option.some.inj hm
  exact N_ret [.bool false] (rC RVs_nil) (⟨rfl, Z.pk []⟩)
 refine gF ap (G_skip (N_then (G_seq (G_region (wR 1 [(3, pB j 0), (4, .bool b.2), (6, pB i 0), (9, iv d.1), (71, .slice h f.length g)] H ?_)))))
 obtain ⟨b5, dn, hm⟩ := gx_bind hm
 refine wC 19 #[.slice h f.length g] ((c_l_toIntS H f h g (aa.mem0 Z) dn).mono ?_)
 rintro e_ d3 ⟨b2, bu, ec, rfl, c7, cl⟩
 have bq := Z.call cl
 refine ⟨_, rfl, ?_⟩
 obtain ⟨x, dp, hm⟩ := gx_bind hm
 refine wC 20 #[.slice b2 b5.length bu] ((c_i_StartCopy d3 b5 b2 bu (c7.rd bq 8 (by kernel_rfl)) dp).mono ?_)
 rintro e_ d4 ⟨N, J, ed, O, K, ee, P, L, ef, rfl, c8, c9, da, cm⟩
 have cv := bq.call cm
 refine ⟨_, rfl, ?_⟩
 refine wR 3 [(3, pB j 0), (4, .bool b.2), (6, pB i 0), (9, iv d.1), (74, .agg #[.slice N x.1.Memory.length J, .slice O x.1.Copy.length K, .slice P x.1.Dirty.length L]), (75, .bool x.2)] d4 (wN (.cells ⟨[.slice none 0 0, .slice none 0 0, .slice none 0 0]⟩ 28 (0, 0)) cv ?_)
 intro cx ej cw
 refine wS true 3 0 (.agg #[.slice N x.1.Memory.length J, .slice O x.1.Copy.length K, .slice P x.1.Dirty.length L]) 12 [.slice N x.1.Memory.length J, .slice O x.1.Copy.length K, .slice P x.1.Dirty.length L] cw rfl ?_
 intro ae G
 refine wR 1 [(3, pB j 0), (4, .bool b.2), (6, pB i 0), (9, iv d.1), (11, pB cx 0), (12, .bool x.2)] ae (W_nil (N_then (G_seq (G_seq ?_))))
 obtain ⟨dv, db, c3⟩ := gx_bind hm
 refine G_meet (fun a w' => Mem [] w w' [[(i, .cells ⟨[.slice n d.2.1.length k, .slice o d.2.2.1.length l, .slice q d.2.2.2.length m]⟩ 28 (0, 0))], b8, b9, ca] ∧ Sat Try.f4.ntmps [(6, pB i 0), (9, iv d.1), (84, .bool dv)] a) ?_ ?_
 ·have hm := db
  refine G_region (wV (.agg #[.slice N x.1.Memory.length J, .slice O x.1.Copy.length K, .slice P x.1.Dirty.length L]) ae (eL true 3 0 (G.blk 12 rfl)) (wV (.agg #[.slice B b.1.Memory.length y, .slice C b.1.Copy.length z, .slice D b.1.Dirty.length A]) ae (eL true 3 0 (G.blk 3 rfl)) ?_))
  obtain ⟨dz, dq, hm⟩ := gx_bind hm
  refine wC 17 #[.agg #[.slice N x.1.Memory.length J, .slice O x.1.Copy.length K, .slice P x.1.Dirty.length L], .agg #[.slice B b.1.Memory.length y, .slice C b.1.Copy.length z, .slice D b.1.Dirty.length A]] ((c_l_eqCopying ae x.1 N J (c8.rd G 9 (by kernel_rfl)) O K (c9.rd G 10 (by kernel_rfl)) P L (da.rd G 11 (by kernel_rfl)) b.1 B y (a0.rd G 0 (by kernel_rfl)) C z (a3.rd G 1 (by kernel_rfl)) D A (a4.rd G 2 (by kernel_rfl)) dq).mono ?_)
  rintro e_ bl ⟨rfl, cn⟩
  have br := G.call0 cn
  refine ⟨_, rfl, ?_⟩
  refine wR 2 [(4, .bool b.2), (6, pB i 0), (9, iv d.1), (12, .bool x.2), (80, .bool (!dz))] bl ?_
  rcases gx_bif hm with ⟨aq, hm⟩ | ⟨aq, hm⟩
  ·refine wK 80 true aq (wR 4 [(6, pB i 0), (9, iv d.1), (84, .bool true)] bl (W_nil ?_))
   obtain rfl := Option.some.inj hm
   exact N_meet fun a ha => ⟨br.pk [4, 5, 6, 7], ha.s⟩
  refine wK 80 false aq (wR 4 [(6, pB i 0), (9, iv d.1), (84, .bool (!(x.2 == b.2)))] bl (W_nil ?_))
  obtain rfl := Option.some.inj hm
  exact N_meet fun a ha => ⟨br.pk [4, 5, 6, 7], ha.s⟩
 intro d8 X ⟨I, c0⟩
 refine N_use c0 ?_
 have hm := c3
 refine N_then ?_
 rcases gx_bif hm with ⟨ar, hm⟩ | ⟨ar, hm⟩
 ·refine gT ar (G_seq (G_region (wR 1 [(2, .bool false)] X (W_nil (N_then (G_ret (N_then_ret ?_)))))))
  obtain rfl := Option.some.inj hm
  exact N_ret [.bool false] (rC RVs_nil) (⟨rfl, I.pk []⟩)
 refine gF ar (G_skip (N_then (G_seq (G_region (wR 1 [(6, pB i 0), (9, iv d.1), (10, iv 1)] X (W_nil (N_then (G_seq (G_region (wV (.agg #[.slice n d.2.1.length k, .slice o d.2.2.1.length l, .slice q d.2.2.2.length m]) X (eL true 3 0 (I.blk 0 rfl)) (wR 1 [(9, iv d.1), (10, iv 1), (85, .agg #[.slice n d.2.1.length k, .slice o d.2.2.1.length l, .slice q d.2.2.2.length m]), (86, iv 1)] X ?_)))))))))))
 obtain ⟨ac, dr, hm⟩ := gx_bind hm
 refine wC 24 #[.agg #[.slice n d.2.1.length k, .slice o d.2.2.1.length l, .slice q d.2.2.2.length m], iv 1] ((c_l_heldCopying X (⟨d.2.1, d.2.2.1, d.2.2.2⟩ : Copying) n k (bx.rd I 1 (by kernel_rfl)) o l (bz.rd I 2 (by kernel_rfl)) q m (b0.rd I 3 (by kernel_rfl)) 1 dr).mono ?_)
 rintro e_ S ⟨rfl, co⟩
 have ah := I.call0 co
 refine ⟨_, rfl, ?_⟩
 refine wR 1 [(9, iv d.1), (10, iv ac)] S (W_nil (N_then (G_seq (G_seq (G_region (wR 2 [(9, iv d.1), (10, iv ac), (89, .bool (decide (ac < 0)))] S (W_nil (N_then ?_))))))))
 rcases gx_bif hm with ⟨au, hm⟩ | ⟨au, hm⟩
 ·refine gT au (G_seq (G_region (wR 1 [(2, .bool false)] S (W_nil (N_then (G_ret (N_then_ret ?_)))))))
  obtain rfl := Option.some.inj hm
  exact N_ret [.bool false] (rC RVs_nil) (⟨rfl, ah.pk []⟩)
 refine gF au (G_skip (N_then (G_seq (G_seq (G_region (wR 3 [(92, .bool (ac != d.1))] S (W_nil (N_then ?_))))))))
 rcases gx_bif hm with ⟨av, hm⟩ | ⟨av, hm⟩
 ·refine gT av (G_seq (G_region (wR 1 [(2, .bool false)] S (W_nil (N_then (G_ret (N_then_ret ?_)))))))
  obtain rfl := Option.some.inj hm
  exact N_ret [.bool false] (rC RVs_nil) (⟨rfl, ah.pk []⟩)
 refine gF av (G_skip (N_then (G_seq (G_region (wR 1 [(2, .bool true)] S (W_nil (N_then (G_ret ?_))))))))
 obtain rfl := Option.some.inj hm
 exact N_ret [.bool true] (rC RVs_nil) (⟨rfl, ah.pk []⟩)
theorem c_s_l19Dirty (w : World) (c : Copying) (t : Option Addr) (n : Nat) (az : rdS Gx.encI w c.Memory t n) (u : Option Addr) (o : Nat) (a0 : rdS Gx.encI w c.Copy u o) (h : Option Addr) (j : Nat) (L : rdS Gx.encB w c.Dirty h j) {r : (List Int)} (hm : M.s_l19Dirty c = some r) :
  Calls Try.prog 65 #[.agg #[.slice t c.Memory.length n, .slice u c.Copy.length o, .slice h c.Dirty.length j]] w fun e w' => ∃ (O : Option Addr) (J : Nat) (Q : Seg), e = .returned (.slice O r.length J) ∧ ownS Gx.encI r O J Q ∧ Mem [] w w' [Q] := by
 unfold M.s_l19Dirty at hm
 refine cE Try.func65 ?_
 have M0 := Mem.refl [] w
 refine G_seq (G_region (wN (.cells ⟨[.slice t c.Memory.length n, .slice u c.Copy.length o, .slice h c.Dirty.length j]⟩ 28 (0, 0)) M0 ?_))
 intro d ao S
 refine wR 1 [(1, pB d 0)] ao (W_nil (N_then (G_seq (G_region (wL (E := Gx.encI) ([] : List Int) 0 [] 3 S ?_)))))
 intro H B am R ae T
 refine wR 1 [(1, pB d 0), (3, .slice H ([] : List Int).length B)] R (W_nil (N_then (G_seq (G_seq (G_region (wR 1 [(1, pB d 0), (3, .slice H ([] : List Int).length B), (4, iv 0)] R (W_nil (N_then ?_))))))))
 obtain ⟨y, al, ad⟩ := gx_bind hm
 refine G_meet (fun a w' => ∃ (m : Option Addr), ∃ (l : Nat), ∃ (z : Seg), ownS Gx.encI y m l z ∧ Mem [] w w' [z] ∧ Sat Try.f65.ntmps [(3, .slice m y.length l)] a) ?_ ?_
 ·refine G_block (G_while (σ := List Int × Int) (ρ := List Int) (fun b a w' => ∃ (g : Option Addr), ∃ (f : Nat), ∃ (x : Seg), ownS Gx.encI b.1 g f x ∧ Mem [] w w' [[(d, .cells ⟨[.slice t c.Memory.length n, .slice u c.Copy.length o, .slice h c.Dirty.length j]⟩ 28 (0, 0))], x] ∧ Sat Try.f65.ntmps [(1, pB d 0), (3, .slice g b.1.length f), (4, iv b.2)] a) al (fun a ha => ⟨H, B, am, ae, T.pk [0, 1], ha.s⟩) ?_)
  clear hm
  intro b a6 hm ak av i ⟨g, f, x, F, k, Y⟩
  refine G_use Y (G_seq (G_seq (G_region (wR 2 [(1, pB d 0), (3, .slice g b.1.length f), (4, iv b.2), (6, iv b.2), (7, pB d 2)] i (wV (.slice h c.Dirty.length j) i (eL false 1 2 (k.blk 0 rfl)) (wR 2 [(1, pB d 0), (3, .slice g b.1.length f), (4, iv b.2), (10, .bool (decide (b.2 < (c.Dirty.length : Int))))] i (W_nil (N_then ?_))))))))
  rcases gx_bif hm with ⟨C, hm⟩ | ⟨C, hm⟩
  ·refine gT C (G_skip (N_then (G_seq (G_block (G_seq (G_region (wR 1 [(1, pB d 0), (3, .slice g b.1.length f), (4, iv b.2), (13, pB d 2)] i (wV (.slice h c.Dirty.length j) i (eL false 1 2 (k.blk 0 rfl)) (wR 1 [(1, pB d 0), (3, .slice g b.1.length f), (4, iv b.2), (14, .slice h c.Dirty.length j), (15, iv b.2)] i ?_)))))))))
   obtain ⟨au, N, hm⟩ := gx_bind hm
   refine wV (elemP h (b.2.toNat * 1)) i (eI (L.mem0 k) rfl N) (wV (.bool au) i (eE false 1 0 (b.2.toNat * 1) (L.mem0 k) N) (W_nil (N_then ?_)))
   obtain ⟨G, ag, ac⟩ := gx_bind hm
   refine G_meet (fun a w' => ∃ (v : Option Addr), ∃ (q : Nat), ∃ (A : Seg), ownS Gx.encI G v q A ∧ Mem [] w w' [[(d, .cells ⟨[.slice t c.Memory.length n, .slice u c.Copy.length o, .slice h c.Dirty.length j]⟩ 28 (0, 0))], A] ∧ Sat Try.f65.ntmps [(1, pB d 0), (3, .slice v G.length q), (4, iv b.2)] a) ?_ ?_
   ·have hm := ag
    rcases gx_bif hm with ⟨D, hm⟩ | ⟨D, hm⟩
    ·refine gT D (G_region (wR 2 [(1, pB d 0), (3, .slice g b.1.length f), (4, iv b.2), (18, .slice g b.1.length f), (19, iv b.2)] i (wL (E := Gx.encI) [b.2] 1 [iv b.2] 3 k ?_)))
     intro a3 ay a4 a5 ai I
     obtain ⟨X, ab, hm⟩ := gx_bind hm
     refine wA 8 [iv 0] 1 I F (ai.rd I 2 (by kernel_rfl)) ab ?_
     intro P K an ap aj U
     refine wR 1 [(1, pB d 0), (3, .slice P X.length K), (4, iv b.2)] ap (W_nil ?_)
     obtain rfl := Option.some.inj hm
     exact N_meet fun a ha => ⟨P, K, an, aj, U.pk [0, 1], ha.s⟩
    refine gF D (G_skip ?_)
    obtain rfl := Option.some.inj hm
    exact N_meet fun a ha => ⟨g, f, x, F, k.pk [0, 1], ha.s⟩
   intro aw aq ⟨v, q, A, ah, V, Z⟩
   refine N_use Z ?_
   have hm := ac
   refine N_block (N_then (G_region (wR 3 [(1, pB d 0), (3, .slice v G.length q), (4, iv (w64 (b.2 + 1)))] aq (W_nil ?_))))
   obtain rfl := Option.some.inj hm
   exact N_loop fun a ha => ⟨_, rfl, v, q, A, ah, V.pk [0, 1], ha.s⟩
  refine gF C (G_exit (N_then_exit (N_then_exit (N_block_eq ?_))))
  obtain rfl := Option.some.inj hm
  obtain rfl := ak _ rfl
  exact N_meet fun a ha => ⟨g, f, x, F, k.pk [1], ha.s⟩
 intro ax ar ⟨m, l, z, af, W, aa⟩
 refine N_use aa ?_
 have hm := ad
 refine N_then (G_seq (G_region (wR 2 [(2, .slice m y.length l)] ar (W_nil (N_then (G_ret ?_))))))
 obtain rfl := Option.some.inj hm
 exact N_ret [.slice m y.length l] (rC RVs_nil) (⟨m, l, z, rfl, af, W.pk [0]⟩)
theorem c_s_DirtyWords (w : World) (a : Copying) (f : Option Addr) (b : Nat) (x : rdS Gx.encI w a.Memory f b) (g : Option Addr) (c : Nat) (y : rdS Gx.encI w a.Copy g c) (h : Option Addr) (d : Nat) (z : rdS Gx.encB w a.Dirty h d) {r : (List Int) × Bool} (hm : M.s_DirtyWords a = some r) :
  Calls Try.prog 25 #[.agg #[.slice f a.Memory.length b, .slice g a.Copy.length c, .slice h a.Dirty.length d]] w fun e w' => ∃ (A : Option Addr) (v : Nat) (C : Seg), e = .returned (.tuple #[.slice A r.1.length v, .bool r.2]) ∧ ownS Gx.encI r.1 A v C ∧ Mem [] w w' [C] := by
 unfold M.s_DirtyWords at hm
 refine cE Try.func25 ?_
 have M0 := Mem.refl [] w
 refine G_seq (G_region (wN (.cells ⟨[.slice f a.Memory.length b, .slice g a.Copy.length c, .slice h a.Dirty.length d]⟩ 28 (0, 0)) M0 ?_))
 intro u q j
 refine wR 2 [(1, pB u 0)] q (W_nil (N_then (G_seq (G_seq (G_region (wV (.agg #[.slice f a.Memory.length b, .slice g a.Copy.length c, .slice h a.Dirty.length d]) q (eL true 3 0 (j.blk 0 rfl)) ?_))))))
 obtain ⟨N, K, hm⟩ := gx_bind hm
 refine wC 56 #[.agg #[.slice f a.Memory.length b, .slice g a.Copy.length c, .slice h a.Dirty.length d]] ((c_s_l19Good q a f b (x.mem0 j) g c (y.mem0 j) h d (z.mem0 j) K).mono ?_)
 rintro e_ t ⟨rfl, D⟩
 have i := j.call0 D
 refine ⟨_, rfl, ?_⟩
 refine wR 1 [(1, pB u 0), (6, .bool (!N))] t (W_nil (N_then ?_))
 rcases gx_bif hm with ⟨m, hm⟩ | ⟨m, hm⟩
 ·refine gT m (G_seq (G_region (wL (E := Gx.encI) ([] : List Int) 0 [] 3 i ?_)))
  intro n k O Q I G
  refine wR 2 [(2, .slice n ([] : List Int).length k), (3, .bool false)] Q (W_nil (N_then (G_ret (N_then_ret ?_))))
  obtain rfl := Option.some.inj hm
  exact N_ret [.slice n ([] : List Int).length k, .bool false] (rC (rC RVs_nil)) (⟨n, k, O, rfl, I, G.pk [1]⟩)
 refine gF m (G_skip (N_then (G_seq (G_region (wV (.agg #[.slice f a.Memory.length b, .slice g a.Copy.length c, .slice h a.Dirty.length d]) t (eL true 3 0 (i.blk 0 rfl)) ?_)))))
 obtain ⟨B, L, hm⟩ := gx_bind hm
 refine wC 65 #[.agg #[.slice f a.Memory.length b, .slice g a.Copy.length c, .slice h a.Dirty.length d]] ((c_s_l19Dirty t a f b (x.mem0 i) g c (y.mem0 i) h d (z.mem0 i) L).mono ?_)
 rintro e_ R ⟨o, l, P, rfl, J, F⟩
 have H := i.call F
 refine ⟨_, rfl, ?_⟩
 refine wR 2 [(2, .slice o B.length l), (3, .bool true)] R (W_nil (N_then (G_ret ?_)))
 obtain rfl := Option.some.inj hm
 exact N_ret [.slice o B.length l, .bool true] (rC (rC RVs_nil)) (⟨o, l, P, rfl, J, H.pk [1]⟩)
theorem c_i_dirtyWords (w : World) (b : Copying) (H : Option Addr) (A : Nat) (az : rdS Gx.encI w b.Memory H A) (I : Option Addr) (B : Nat) (a0 : rdS Gx.encI w b.Copy I B) (d : Option Addr) (f : Nat) (P : rdS Gx.encB w b.Dirty d f) {r : (List Int)} (hm : M.i_dirtyWords b = some r) :
  Calls Try.prog 66 #[.agg #[.slice H b.Memory.length A, .slice I b.Copy.length B, .slice d b.Dirty.length f]] w fun e w' => ∃ (R : Option Addr) (N : Nat) (T : Seg), e = .returned (.slice R r.length N) ∧ ownS Gx.encI r R N T ∧ Mem [] w w' [T] := by
 unfold M.i_dirtyWords at hm
 refine cE Try.func66 ?_
 have M0 := Mem.refl [] w
 refine G_seq (G_region (wN (.cells ⟨[.slice H b.Memory.length A, .slice I b.Copy.length B, .slice d b.Dirty.length f]⟩ 28 (0, 0)) M0 ?_))
 intro z ap U
 refine wR 1 [(1, pB z 0)] ap (W_nil (N_then (G_seq (G_region (wL (E := Gx.encI) ([] : List Int) 0 [] 3 U ?_)))))
 intro u q an y af K
 refine wR 1 [(1, pB z 0), (3, .slice u ([] : List Int).length q)] y (W_nil (N_then (G_seq (G_seq (G_region (wR 1 [(3, .slice u ([] : List Int).length q), (7, pB z 2)] y (wV (.slice d b.Dirty.length f) y (eL false 1 2 (K.blk 0 rfl)) (wR 2 [(3, .slice u ([] : List Int).length q), (8, .slice d b.Dirty.length f), (9, iv (b.Dirty.length : Int)), (10, iv 0)] y (W_nil (N_then ?_))))))))))
 obtain ⟨t, am, ae⟩ := gx_bind hm
 refine G_meet (fun a w' => ∃ (k : Option Addr), ∃ (j : Nat), ∃ (v : Seg), ownS Gx.encI t k j v ∧ Mem [] w w' [v] ∧ Sat Try.f66.ntmps [(3, .slice k t.length j)] a) ?_ ?_
 ·refine G_block (G_while (σ := List Int × Int) (ρ := List Int) (fun c a w' => ∃ (h : Option Addr), ∃ (g : Nat), ∃ (o : Seg), ownS Gx.encI c.1 h g o ∧ Mem [] w w' [o] ∧ Sat Try.f66.ntmps [(3, .slice h c.1.length g), (8, .slice d b.Dirty.length f), (9, iv (b.Dirty.length : Int)), (10, iv c.2)] a) am (fun a ha => ⟨u, q, an, af, K.pk [1], ha.s⟩) ?_)
  clear hm
  intro c a6 hm al av i ⟨h, g, o, F, l, Z⟩
  refine G_use Z (G_seq (G_region (wR 1 [(3, .slice h c.1.length g), (8, .slice d b.Dirty.length f), (9, iv (b.Dirty.length : Int)), (10, iv c.2), (11, .bool (decide (c.2 < (b.Dirty.length : Int))))] i (W_nil (N_then (G_seq ?_))))))
  rcases gx_bif hm with ⟨C, hm⟩ | ⟨C, hm⟩
  ·refine gT C (G_skip (N_then (G_seq (G_block (G_seq (G_region (wR 1 [(3, .slice h c.1.length g), (8, .slice d b.Dirty.length f), (9, iv (b.Dirty.length : Int)), (10, iv c.2), (12, iv c.2)] i ?_)))))))
   obtain ⟨J, Q, hm⟩ := gx_bind hm
   refine wV (elemP d (c.2.toNat * 1)) i (eI (P.mem0 l) rfl Q) (wV (.bool J) i (eE false 1 0 (c.2.toNat * 1) (P.mem0 l) Q) (wR 2 [(3, .slice h c.1.length g), (4, iv c.2), (5, .bool J), (8, .slice d b.Dirty.length f), (9, iv (b.Dirty.length : Int)), (10, iv c.2)] i (W_nil (N_then (G_seq (G_region (wR 1 [(3, .slice h c.1.length g), (4, iv c.2), (8, .slice d b.Dirty.length f), (9, iv (b.Dirty.length : Int)), (10, iv c.2), (15, .bool J)] i (W_nil (N_then ?_)))))))))
   obtain ⟨G, ah, ad⟩ := gx_bind hm
   refine G_meet (fun a w' => ∃ (n : Option Addr), ∃ (m : Nat), ∃ (x : Seg), ownS Gx.encI G n m x ∧ Mem [] w w' [x] ∧ Sat Try.f66.ntmps [(3, .slice n G.length m), (8, .slice d b.Dirty.length f), (9, iv (b.Dirty.length : Int)), (10, iv c.2)] a) ?_ ?_
   ·have hm := ah
    rcases gx_bif hm with ⟨D, hm⟩ | ⟨D, hm⟩
    ·refine gT D (G_region (wR 2 [(3, .slice h c.1.length g), (8, .slice d b.Dirty.length f), (9, iv (b.Dirty.length : Int)), (10, iv c.2), (16, .slice h c.1.length g), (17, iv c.2)] i (wL (E := Gx.encI) [c.2] 1 [iv c.2] 3 l ?_)))
     intro a3 ay a4 a5 aj L
     obtain ⟨Y, ac, hm⟩ := gx_bind hm
     refine wA 8 [iv 0] 0 L F (aj.rd L 1 (by kernel_rfl)) ac ?_
     intro S O ao aq ak V
     refine wR 1 [(3, .slice S Y.length O), (8, .slice d b.Dirty.length f), (9, iv (b.Dirty.length : Int)), (10, iv c.2)] aq (W_nil ?_)
     obtain rfl := Option.some.inj hm
     exact N_meet fun a ha => ⟨S, O, ao, ak, V.pk [0], ha.s⟩
    refine gF D (G_skip ?_)
    obtain rfl := Option.some.inj hm
    exact N_meet fun a ha => ⟨h, g, o, F, l.pk [0], ha.s⟩
   intro aw ar ⟨n, m, x, ai, W, aa⟩
   refine N_use aa ?_
   have hm := ad
   refine N_block (N_then (G_region (wR 2 [(3, .slice n G.length m), (8, .slice d b.Dirty.length f), (9, iv (b.Dirty.length : Int)), (10, iv (w64 (c.2 + 1)))] ar (W_nil ?_))))
   obtain rfl := Option.some.inj hm
   exact N_loop fun a ha => ⟨_, rfl, n, m, x, ai, W.pk [0], ha.s⟩
  refine gF C (G_exit (N_then_exit (N_then_exit (N_block_eq ?_))))
  obtain rfl := Option.some.inj hm
  obtain rfl := al _ rfl
  exact N_meet fun a ha => ⟨h, g, o, F, l.pk [0], ha.s⟩
 intro ax au ⟨k, j, v, ag, X, ab⟩
 refine N_use ab ?_
 have hm := ae
 refine N_then (G_seq (G_region (wR 2 [(2, .slice k t.length j)] au (W_nil (N_then (G_ret ?_))))))
 obtain rfl := Option.some.inj hm
 exact N_ret [.slice k t.length j] (rC RVs_nil) (⟨k, j, v, rfl, ag, X.pk [0]⟩)
theorem c_i_DirtyWords (w : World) (a : Copying) (f : Option Addr) (b : Nat) (u : rdS Gx.encI w a.Memory f b) (g : Option Addr) (c : Nat) (v : rdS Gx.encI w a.Copy g c) (h : Option Addr) (d : Nat) (x : rdS Gx.encB w a.Dirty h d) {r : (List Int) × Bool} (hm : M.i_DirtyWords a = some r) :
  Calls Try.prog 26 #[.agg #[.slice f a.Memory.length b, .slice g a.Copy.length c, .slice h a.Dirty.length d]] w fun e w' => ∃ (y : Option Addr) (t : Nat) (A : Seg), e = .returned (.tuple #[.slice y r.1.length t, .bool r.2]) ∧ ownS Gx.encI r.1 y t A ∧ Mem [] w w' [A] := by
 unfold M.i_DirtyWords at hm
 refine cE Try.func26 ?_
 have M0 := Mem.refl [] w
 refine G_seq (G_region (wN (.cells ⟨[.slice f a.Memory.length b, .slice g a.Copy.length c, .slice h a.Dirty.length d]⟩ 28 (0, 0)) M0 ?_))
 intro q o j
 refine wR 2 [(1, pB q 0)] o (W_nil (N_then (G_seq (G_seq (G_region (wV (.agg #[.slice f a.Memory.length b, .slice g a.Copy.length c, .slice h a.Dirty.length d]) o (eL true 3 0 (j.blk 0 rfl)) ?_))))))
 obtain ⟨H, F, hm⟩ := gx_bind hm
 refine wC 16 #[.agg #[.slice f a.Memory.length b, .slice g a.Copy.length c, .slice h a.Dirty.length d]] ((c_i_IsCopying o a f b (u.mem0 j) g c (v.mem0 j) h d (x.mem0 j) F).mono ?_)
 rintro e_ k ⟨rfl, B⟩
 have i := j.call0 B
 refine ⟨_, rfl, ?_⟩
 refine wR 1 [(1, pB q 0), (6, .bool (!H))] k (W_nil (N_then ?_))
 rcases gx_bif hm with ⟨m, hm⟩ | ⟨m, hm⟩
 ·refine gT m (G_seq (G_region (wR 2 [(2, .slice none 0 0), (3, .bool false)] k (W_nil (N_then (G_ret (N_then_ret ?_)))))))
  obtain rfl := Option.some.inj hm
  exact N_ret [.slice none 0 0, .bool false] (rC (rC RVs_nil)) (⟨none, 0, [], rfl, ownS_nil, i.pk [100000]⟩)
 refine gF m (G_skip (N_then (G_seq (G_region (wV (.agg #[.slice f a.Memory.length b, .slice g a.Copy.length c, .slice h a.Dirty.length d]) k (eL true 3 0 (i.blk 0 rfl)) ?_)))))
 obtain ⟨z, G, hm⟩ := gx_bind hm
 refine wC 66 #[.agg #[.slice f a.Memory.length b, .slice g a.Copy.length c, .slice h a.Dirty.length d]] ((c_i_dirtyWords k a f b (u.mem0 i) g c (v.mem0 i) h d (x.mem0 i) G).mono ?_)
 rintro e_ J ⟨n, l, I, rfl, E, C⟩
 have D := i.call C
 refine ⟨_, rfl, ?_⟩
 refine wR 2 [(2, .slice n z.length l), (3, .bool true)] J (W_nil (N_then (G_ret ?_)))
 obtain rfl := Option.some.inj hm
 exact N_ret [.slice n z.length l, .bool true] (rC (rC RVs_nil)) (⟨n, l, I, rfl, E, D.pk [1]⟩)
theorem c_l_FnExactDirtyWords (w : World) (b : Copying) (y : Option Addr) (t : Nat) (ai : rdS Gx.encI w b.Memory y t) (z : Option Addr) (u : Nat) (aj : rdS Gx.encI w b.Copy z u) (A : Option Addr) (x : Nat) (ak : rdS Gx.encB w b.Dirty A x) {r : Bool} (hm : M.l_FnExactDirtyWords b = some r) :
  Calls Try.prog 5 #[.agg #[.slice y b.Memory.length t, .slice z b.Copy.length u, .slice A b.Dirty.length x]] w fun e w' => e = .returned (.bool r) ∧ Mem [] w w' [] := by
 unfold M.l_FnExactDirtyWords at hm
 refine cE Try.func5 ?_
 have M0 := Mem.refl [] w
 refine G_seq (G_region (wN (.cells ⟨[.slice y b.Memory.length t, .slice z b.Copy.length u, .slice A b.Dirty.length x]⟩ 25 (0, 0)) M0 ?_))
 intro n am ae
 refine wR 1 [(1, pB n 0)] am (W_nil (N_then (G_seq (G_region (wR 1 [(1, pB n 0), (3, iv 1048576)] am (W_nil (N_then (G_seq (G_region (wV (.agg #[.slice y b.Memory.length t, .slice z b.Copy.length u, .slice A b.Dirty.length x]) am (eL true 3 0 (ae.blk 0 rfl)) (wR 1 [(1, pB n 0), (3, iv 1048576), (14, .agg #[.slice y b.Memory.length t, .slice z b.Copy.length u, .slice A b.Dirty.length x]), (15, iv 1048576)] am ?_)))))))))))
 obtain ⟨cx, d0, hm⟩ := gx_bind hm
 refine wC 13 #[.agg #[.slice y b.Memory.length t, .slice z b.Copy.length u, .slice A b.Dirty.length x], iv 1048576] ((c_l_szCopying am b y t (ai.mem0 ae) z u (aj.mem0 ae) A x (ak.mem0 ae) 1048576 d0).mono ?_)
 rintro e_ an ⟨rfl, cz⟩
 have Z := ae.call0 cz
 refine ⟨_, rfl, ?_⟩
 refine wR 1 [(1, pB n 0), (3, iv cx)] an (W_nil (N_then (G_seq (G_seq (G_region (wR 2 [(1, pB n 0), (18, .bool (decide (cx < 0)))] an (W_nil (N_then ?_))))))))
 rcases gx_bif hm with ⟨bg, hm⟩ | ⟨bg, hm⟩
 ·refine gT bg (G_seq (G_region (wR 1 [(2, .bool true)] an (W_nil (N_then (G_ret (N_then_ret ?_)))))))
  obtain rfl := Option.some.inj hm
  exact N_ret [.bool true] (rC RVs_nil) (⟨rfl, Z.pk []⟩)
 refine gF bg (G_skip (N_then (G_seq (G_region (wV (.agg #[.slice y b.Memory.length t, .slice z b.Copy.length u, .slice A b.Dirty.length x]) an (eL true 3 0 (Z.blk 0 rfl)) ?_)))))
 obtain ⟨az, d1, hm⟩ := gx_bind hm
 refine wC 15 #[.agg #[.slice y b.Memory.length t, .slice z b.Copy.length u, .slice A b.Dirty.length x]] ((c_l_toCopying an b y t (ai.mem0 Z) z u (aj.mem0 Z) A x (ak.mem0 Z) d1).mono ?_)
 rintro e_ er ⟨cr, cj, e3, cs, ck, e4, ct, cl, e5, rfl, dq, dr, ds, c0⟩
 have ao := Z.call c0
 refine ⟨_, rfl, ?_⟩
 obtain ⟨c, d2, hm⟩ := gx_bind hm
 refine wC 25 #[.agg #[.slice cr az.Memory.length cj, .slice cs az.Copy.length ck, .slice ct az.Dirty.length cl]] ((c_s_DirtyWords er az cr cj (dq.rd ao 1 (by kernel_rfl)) cs ck (dr.rd ao 2 (by kernel_rfl)) ct cl (ds.rd ao 3 (by kernel_rfl)) d2).mono ?_)
 rintro e_ b5 ⟨q, o, al, rfl, bw, c1⟩
 have af := ao.call c1
 refine ⟨_, rfl, ?_⟩
 refine wR 5 [(1, pB n 0), (4, .slice q c.1.length o), (5, .bool c.2)] b5 (W_nil (N_then (G_seq (G_region (wV (.agg #[.slice y b.Memory.length t, .slice z b.Copy.length u, .slice A b.Dirty.length x]) b5 (eL true 3 0 (af.blk 0 rfl)) ?_)))))
 obtain ⟨k, d3, hm⟩ := gx_bind hm
 refine wC 15 #[.agg #[.slice y b.Memory.length t, .slice z b.Copy.length u, .slice A b.Dirty.length x]] ((c_l_toCopying b5 b y t (ai.mem0 af) z u (aj.mem0 af) A x (ak.mem0 af) d3).mono ?_)
 rintro e_ fa ⟨E, B, a5, F, C, a6, G, D, a7, rfl, bx, bz, b0, c2⟩
 have df := af.call c2
 refine ⟨_, rfl, ?_⟩
 refine wN (.cells ⟨[.slice none 0 0, .slice none 0 0, .slice none 0 0]⟩ 28 (0, 0)) df ?_
 intro I fb dg
 refine wS true 3 0 (.agg #[.slice E k.Memory.length B, .slice F k.Copy.length C, .slice G k.Dirty.length D]) 8 [.slice E k.Memory.length B, .slice F k.Copy.length C, .slice G k.Dirty.length D] dg rfl ?_
 intro cy ag
 refine W_nil (N_then (G_seq (G_region (wV (.agg #[.slice E k.Memory.length B, .slice F k.Copy.length C, .slice G k.Dirty.length D]) cy (eL true 3 0 (ag.blk 8 rfl)) ?_))))
 obtain ⟨l, d4, hm⟩ := gx_bind hm
 refine wC 26 #[.agg #[.slice E k.Memory.length B, .slice F k.Copy.length C, .slice G k.Dirty.length D]] ((c_i_DirtyWords cy k E B (bx.rd ag 5 (by kernel_rfl)) F C (bz.rd ag 6 (by kernel_rfl)) G D (b0.rd ag 7 (by kernel_rfl)) d4).mono ?_)
 rintro e_ b6 ⟨g, d, aa, rfl, b1, c3⟩
 have bb := ag.call c3
 refine ⟨_, rfl, ?_⟩
 refine wR 5 [(1, pB n 0), (4, .slice q c.1.length o), (5, .bool c.2), (6, pB I 0), (7, .slice g l.1.length d), (8, .bool l.2)] b6 (W_nil (N_then (G_seq (G_seq ?_))))
 obtain ⟨cq, dt, dm⟩ := gx_bind hm
 refine G_meet (fun a w' => Mem [] w w' [[(n, .cells ⟨[.slice y b.Memory.length t, .slice z b.Copy.length u, .slice A b.Dirty.length x]⟩ 25 (0, 0))], al, a5, a6, a7, [(I, .cells ⟨[.slice E k.Memory.length B, .slice F k.Copy.length C, .slice G k.Dirty.length D]⟩ 28 (0, 0))], aa] ∧ Sat Try.f5.ntmps [(1, pB n 0), (4, .slice q c.1.length o), (5, .bool c.2), (6, pB I 0), (7, .slice g l.1.length d), (8, .bool l.2), (40, .bool cq)] a) ?_ ?_
 ·have hm := dt
  refine G_region (wR 2 [(1, pB n 0), (4, .slice q c.1.length o), (5, .bool c.2), (6, pB I 0), (7, .slice g l.1.length d), (8, .bool l.2), (32, .slice g l.1.length d), (33, .slice q c.1.length o)] b6 ?_)
  obtain ⟨ei, d5, hm⟩ := gx_bind hm
  refine wC 21 #[.slice g l.1.length d, .slice q c.1.length o] ((c_l_eqIntS b6 l.1 g d (b1.rd bb 9 (by kernel_rfl)) c.1 q o (bw.rd bb 4 (by kernel_rfl)) d5).mono ?_)
  rintro e_ b7 ⟨rfl, c4⟩
  have cc := bb.call0 c4
  refine ⟨_, rfl, ?_⟩
  refine wR 2 [(1, pB n 0), (4, .slice q c.1.length o), (5, .bool c.2), (6, pB I 0), (7, .slice g l.1.length d), (8, .bool l.2), (36, .bool (!ei))] b7 ?_
  rcases gx_bif hm with ⟨bh, hm⟩ | ⟨bh, hm⟩
  ·refine wK 36 true bh (wR 4 [(1, pB n 0), (4, .slice q c.1.length o), (5, .bool c.2), (6, pB I 0), (7, .slice g l.1.length d), (8, .bool l.2), (40, .bool true)] b7 (W_nil ?_))
   obtain rfl := Option.some.inj hm
   exact N_meet fun a ha => ⟨cc.pk [0, 4, 5, 6, 7, 8, 9], ha.s⟩
  refine wK 36 false bh (wR 4 [(1, pB n 0), (4, .slice q c.1.length o), (5, .bool c.2), (6, pB I 0), (7, .slice g l.1.length d), (8, .bool l.2), (40, .bool (!(l.2 == c.2)))] b7 (W_nil ?_))
  obtain rfl := Option.some.inj hm
  exact N_meet fun a ha => ⟨cc.pk [0, 4, 5, 6, 7, 8, 9], ha.s⟩
 intro ex es ⟨cd, dj⟩
 refine N_use dj ?_
 have hm := dm
 refine N_then ?_
 rcases gx_bif hm with ⟨bi, hm⟩ | ⟨bi, hm⟩
 ·refine gT bi (G_seq (G_region (wR 1 [(2, .bool false)] es (W_nil (N_then (G_ret (N_then_ret ?_)))))))
  obtain rfl := Option.some.inj hm
  exact N_ret [.bool false] (rC RVs_nil) (⟨rfl, cd.pk []⟩)
 refine gF bi (G_skip (N_then (G_seq (G_seq ?_))))
 obtain ⟨H, d6, hm⟩ := gx_bind hm
 refine G_sub [(1, pB n 0), (4, .slice q c.1.length o), (5, .bool c.2), (6, pB I 0), (7, .slice g l.1.length d), (8, .bool l.2), (40, .bool cq)] (by kernel_rfl) (G_dagL 3 [[], [], [1]] [[], [], []] [[], [], []] [[], [], []] [[], [], []] [[], [], []] (fun _ => []) (fun i => ([fun f v s => v = (.agg #[.slice E k.Memory.length B, .slice F k.Copy.length C, .slice G k.Dirty.length D] : Value) ∧ s = [], fun f v s => v = (.agg #[.slice y b.Memory.length t, .slice z b.Copy.length u, .slice A b.Dirty.length x] : Value) ∧ s = [], fun f v s => ∃ (N : Option Addr) (J : Nat) (Q : Seg), ∃ (O : Option Addr) (K : Nat) (S : Seg), ∃ (P : Option Addr) (L : Nat) (T : Seg), v = (.agg #[.slice N H.Memory.length J, .slice O H.Copy.length K, .slice P H.Dirty.length L] : Value) ∧ s = (Q ++ (S ++ T)) ∧ ownS Gx.encI H.Memory N J Q ∧ ownS Gx.encI H.Copy O K S ∧ ownS Gx.encB H.Dirty P L T] : List ((Nat → Value) → Value → Seg → Prop)).getD i (fun _ _ _ => False)) (fun j f v => ∃ s, (fun i => ([fun f v s => v = (.agg #[.slice E k.Memory.length B, .slice F k.Copy.length C, .slice G k.Dirty.length D] : Value) ∧ s = [], fun f v s => v = (.agg #[.slice y b.Memory.length t, .slice z b.Copy.length u, .slice A b.Dirty.length x] : Value) ∧ s = [], fun f v s => ∃ (N : Option Addr) (J : Nat) (Q : Seg), ∃ (O : Option Addr) (K : Nat) (S : Seg), ∃ (P : Option Addr) (L : Nat) (T : Seg), v = (.agg #[.slice N H.Memory.length J, .slice O H.Copy.length K, .slice P H.Dirty.length L] : Value) ∧ s = (Q ++ (S ++ T)) ∧ ownS Gx.encI H.Memory N J Q ∧ ownS Gx.encI H.Copy O K S ∧ ownS Gx.encB H.Dirty P L T] : List ((Nat → Value) → Value → Seg → Prop)).getD i (fun _ _ _ => False)) j f v s) [] [0, 2] [2] (fun _ _ _ s h => ⟨s, h⟩) (by kernel_rfl) (by kernel_rfl) (cd.preNil 3) (by kernel_rfl) (by kernel_rfl) (by kernel_rfl) (by kernel_rfl) (allOb_cons ?_ (allOb_cons ?_ (allOb_cons ?_ allOb_nil))) ?_)
 ·intro aw bf
  intro R et ce
  exact wV (.agg #[.slice E k.Memory.length B, .slice F k.Copy.length C, .slice G k.Dirty.length D]) et (eL true 3 0 (ce.blk 5 rfl)) (W_nil (oE (.agg #[.slice E k.Memory.length B, .slice F k.Copy.length C, .slice G k.Dirty.length D]) [] ⟨by kernel_rfl, rfl⟩ ce))
 ·intro aw bf
  intro R eu cf
  exact wV (.agg #[.slice y b.Memory.length t, .slice z b.Copy.length u, .slice A b.Dirty.length x]) eu (eL true 3 0 (cf.blk 0 rfl)) (W_nil (oE (.agg #[.slice y b.Memory.length t, .slice z b.Copy.length u, .slice A b.Dirty.length x]) [] ⟨by kernel_rfl, rfl⟩ cf))
 ·intro aw bf
  intro v1_ hb1_
  obtain ⟨rfl, _⟩ := hb1_
  intro R ev ap
  refine wC 15 #[.agg #[.slice y b.Memory.length t, .slice z b.Copy.length u, .slice A b.Dirty.length x]] ((c_l_toCopying ev b y t (ai.mem0 ap) z u (aj.mem0 ap) A x (ak.mem0 ap) d6).mono ?_)
  rintro e_ fc ⟨N, J, Q, O, K, S, P, L, T, rfl, b2, b3, b4, c5⟩
  refine ⟨_, rfl, ?_⟩
  exact W_nil (oE (.agg #[.slice N H.Memory.length J, .slice O H.Copy.length K, .slice P H.Dirty.length L]) (Q ++ (S ++ T)) ⟨N, J, Q, O, K, S, P, L, T, rfl, rfl, b2, b3, b4⟩ (Mem.callMid ap (c5.permF (by simp))))
 intro aw bf
 intro v0_ hb0_
 obtain ⟨rfl, _⟩ := hb0_
 intro v2_ hb2_
 obtain ⟨N, J, Q, O, K, S, P, L, T, rfl, hs2_, b2, b3, b4⟩ := hb2_
 intro b8 dh
 have U : Mem [] w b8 [[(n, .cells ⟨[.slice y b.Memory.length t, .slice z b.Copy.length u, .slice A b.Dirty.length x]⟩ 25 (0, 0))], al, a5, a6, a7, [(I, .cells ⟨[.slice E k.Memory.length B, .slice F k.Copy.length C, .slice G k.Dirty.length D]⟩ 28 (0, 0))], aa, (aw 2)] := dh
 rw [hs2_] at U
 replace U : Mem [] w b8 [[(n, .cells ⟨[.slice y b.Memory.length t, .slice z b.Copy.length u, .slice A b.Dirty.length x]⟩ 25 (0, 0))], al, a5, a6, a7, [(I, .cells ⟨[.slice E k.Memory.length B, .slice F k.Copy.length C, .slice G k.Dirty.length D]⟩ 28 (0, 0))], aa, Q, S, T] := U.permF (by simp)
 obtain ⟨ej, d7, hm⟩ := gx_bind hm
 refine wC 17 #[.agg #[.slice E k.Memory.length B, .slice F k.Copy.length C, .slice G k.Dirty.length D], .agg #[.slice N H.Memory.length J, .slice O H.Copy.length K, .slice P H.Dirty.length L]] ((c_l_eqCopying b8 k E B (bx.rd U 2 (by kernel_rfl)) F C (bz.rd U 3 (by kernel_rfl)) G D (b0.rd U 4 (by kernel_rfl)) H N J (b2.rd U 7 (by kernel_rfl)) O K (b3.rd U 8 (by kernel_rfl)) P L (b4.rd U 9 (by kernel_rfl)) d7).mono ?_)
 rintro e_ ab ⟨rfl, c6⟩
 have ah := U.call0 c6
 refine ⟨_, rfl, ?_⟩
 refine wR 1 [(1, pB n 0), (4, .slice q c.1.length o), (5, .bool c.2), (6, pB I 0), (7, .slice g l.1.length d), (8, .bool l.2), (45, .bool (!ej))] ab (W_nil (N_then ?_))
 rcases gx_bif hm with ⟨bj, hm⟩ | ⟨bj, hm⟩
 ·refine gT bj (G_seq (G_region (wR 1 [(2, .bool false)] ab (W_nil (N_then (G_ret (N_then_ret ?_)))))))
  obtain rfl := Option.some.inj hm
  exact N_ret [.bool false] (rC RVs_nil) (⟨rfl, ah.pk []⟩)
 refine gF bj (G_skip (N_then (G_seq (G_region (wR 1 [(1, pB n 0), (4, .slice q c.1.length o), (5, .bool c.2), (6, pB I 0), (7, .slice g l.1.length d), (8, .bool l.2), (9, iv 1)] ab (W_nil (N_then (G_seq (G_region (wV (.agg #[.slice E k.Memory.length B, .slice F k.Copy.length C, .slice G k.Dirty.length D]) ab (eL true 3 0 (ah.blk 5 rfl)) (wR 1 [(1, pB n 0), (4, .slice q c.1.length o), (5, .bool c.2), (7, .slice g l.1.length d), (8, .bool l.2), (9, iv 1), (46, .agg #[.slice E k.Memory.length B, .slice F k.Copy.length C, .slice G k.Dirty.length D]), (47, iv 1)] ab ?_)))))))))))
 obtain ⟨V, d8, hm⟩ := gx_bind hm
 refine wC 23 #[.agg #[.slice E k.Memory.length B, .slice F k.Copy.length C, .slice G k.Dirty.length D], iv 1] ((c_l_markCopying ab k E B a5 bx F C a6 bz G D a7 b0 1 (ah.hasPick [2, 3, 4]) (ah.nodupPick [2, 3, 4] (by kernel_rfl)) d8).mono ?_)
 rintro e_ ac ⟨em, en, eo, rfl, e0, bt, e1, bu, e2, bv, c7⟩
 have di := ah.callF' [2, 3, 4] [0, 1, 5, 6, 7, 8, 9] (by kernel_rfl) c7
 refine ⟨_, rfl, ?_⟩
 refine wX 46 (.agg #[.slice E k.Memory.length B, .slice F k.Copy.length C, .slice G k.Dirty.length D]) (.agg #[.slice E V.2.1.length B, .slice F V.2.2.1.length C, .slice G V.2.2.2.length D]) (by first | rw [bt, bu, bv] | rw [bt] | rw [bu] | rw [bv]) ?_
 have aq : Mem [] w ac [[(n, .cells ⟨[.slice y b.Memory.length t, .slice z b.Copy.length u, .slice A b.Dirty.length x]⟩ 25 (0, 0))], al, [(I, .cells ⟨[.slice E V.2.1.length B, .slice F V.2.2.1.length C, .slice G V.2.2.2.length D]⟩ 28 (0, 0))], aa, Q, S, T, em, en, eo] := by rw [bt, bu, bv]; exact di
 refine wR 1 [(1, pB n 0), (4, .slice q c.1.length o), (5, .bool c.2), (7, .slice g l.1.length d), (8, .bool l.2), (9, iv V.1)] ac (W_nil (N_then (G_seq (G_seq ?_))))
 obtain ⟨eg, du, dn⟩ := gx_bind hm
 refine G_meet (fun a w' => Mem [] w w' [[(n, .cells ⟨[.slice y b.Memory.length t, .slice z b.Copy.length u, .slice A b.Dirty.length x]⟩ 25 (0, 0))], al, aa] ∧ Sat Try.f5.ntmps [(1, pB n 0), (4, .slice q c.1.length o), (5, .bool c.2), (7, .slice g l.1.length d), (61, .bool eg)] a) ?_ ?_
 ·have hm := du
  refine G_region (wR 3 [(1, pB n 0), (4, .slice q c.1.length o), (5, .bool c.2), (7, .slice g l.1.length d), (8, .bool l.2), (51, .bool (decide (V.1 < 0)))] ac ?_)
  rcases gx_bif hm with ⟨bk, hm⟩ | ⟨bk, hm⟩
  ·refine wK 51 true bk (wR 10 [(1, pB n 0), (4, .slice q c.1.length o), (5, .bool c.2), (7, .slice g l.1.length d), (61, .bool true)] ac (W_nil ?_))
   obtain rfl := Option.some.inj hm
   exact N_meet fun a ha => ⟨aq.pk [0, 1, 3], ha.s⟩
  refine wK 51 false bk (wR 2 [(1, pB n 0), (4, .slice q c.1.length o), (5, .bool c.2), (7, .slice g l.1.length d), (8, .bool l.2), (51, .bool false), (52, .slice g l.1.length d), (53, .slice q c.1.length o)] ac ?_)
  obtain ⟨ek, d9, hm⟩ := gx_bind hm
  refine wC 21 #[.slice g l.1.length d, .slice q c.1.length o] ((c_l_eqIntS ac l.1 g d (b1.rd aq 3 (by kernel_rfl)) c.1 q o (bw.rd aq 1 (by kernel_rfl)) d9).mono ?_)
  rintro e_ b9 ⟨rfl, c8⟩
  have cg := aq.call0 c8
  refine ⟨_, rfl, ?_⟩
  refine wR 3 [(1, pB n 0), (4, .slice q c.1.length o), (5, .bool c.2), (7, .slice g l.1.length d), (8, .bool l.2), (57, .bool (!ek))] b9 ?_
  rcases gx_bif hm with ⟨bl, hm⟩ | ⟨bl, hm⟩
  ·refine wK 57 true bl (wR 4 [(1, pB n 0), (4, .slice q c.1.length o), (5, .bool c.2), (7, .slice g l.1.length d), (61, .bool true)] b9 (W_nil ?_))
   obtain rfl := Option.some.inj hm
   exact N_meet fun a ha => ⟨cg.pk [0, 1, 3], ha.s⟩
  refine wK 57 false bl (wR 4 [(1, pB n 0), (4, .slice q c.1.length o), (5, .bool c.2), (7, .slice g l.1.length d), (61, .bool (!(l.2 == c.2)))] b9 (W_nil ?_))
  obtain rfl := Option.some.inj hm
  exact N_meet fun a ha => ⟨cg.pk [0, 1, 3], ha.s⟩
 intro ey a8 ⟨ar, dk⟩
 refine N_use dk ?_
 have hm := dn
 refine N_then ?_
 rcases gx_bif hm with ⟨bm, hm⟩ | ⟨bm, hm⟩
 ·refine gT bm (G_seq (G_region (wR 1 [(2, .bool false)] a8 (W_nil (N_then (G_ret (N_then_ret ?_)))))))
  obtain rfl := Option.some.inj hm
  exact N_ret [.bool false] (rC RVs_nil) (⟨rfl, ar.pk []⟩)
 refine gF bm (G_skip (N_then (G_seq (G_region (wR 1 [(1, pB n 0), (4, .slice q c.1.length o), (5, .bool c.2), (7, .slice g l.1.length d), (10, iv 1)] a8 (W_nil (N_then (G_seq (G_region (wR 2 [(1, pB n 0), (4, .slice q c.1.length o), (5, .bool c.2), (7, .slice g l.1.length d), (10, iv 1), (62, .slice g l.1.length d), (63, iv 1)] a8 ?_))))))))))
 obtain ⟨m, ea, hm⟩ := gx_bind hm
 refine wC 22 #[.slice g l.1.length d, iv 1] ((c_l_markIntS a8 l.1 g d aa b1 1 (ar.hasPick [2]) (ar.nodupPick [2] (by kernel_rfl)) ea).mono ?_)
 rintro e_ a9 ⟨ep, rfl, cp, ax, c9⟩
 have ch := ar.callF' [2] [0, 1] (by kernel_rfl) c9
 refine ⟨_, rfl, ?_⟩
 refine wX 7 (.slice g l.1.length d) (.slice g m.2.length d) (by first | rw [ax] | rw [ax]) (wX 62 (.slice g l.1.length d) (.slice g m.2.length d) (by first | rw [ax] | rw [ax]) (wR 1 [(1, pB n 0), (4, .slice q c.1.length o), (5, .bool c.2), (7, .slice g m.2.length d), (10, iv m.1)] a9 (W_nil (N_then (G_seq (G_region (wR 1 [(1, pB n 0), (4, .slice q c.1.length o), (5, .bool c.2), (7, .slice g m.2.length d), (10, iv m.1), (11, iv 1)] a9 (W_nil (N_then (G_seq (G_region (wR 2 [(1, pB n 0), (4, .slice q c.1.length o), (5, .bool c.2), (7, .slice g m.2.length d), (10, iv m.1), (11, iv 1), (65, .slice g m.2.length d), (66, iv 1)] a9 ?_))))))))))))
 obtain ⟨a0, eb, hm⟩ := gx_bind hm
 refine wC 27 #[.slice g m.2.length d, iv 1] ((c_l_heldIntS a9 m.2 g d (cp.rd ch 2 (by kernel_rfl)) 1 eb).mono ?_)
 rintro e_ Y ⟨rfl, da⟩
 have X := ch.call0 da
 refine ⟨_, rfl, ?_⟩
 refine wR 1 [(1, pB n 0), (4, .slice q c.1.length o), (5, .bool c.2), (7, .slice g m.2.length d), (10, iv m.1), (11, iv a0)] Y (W_nil (N_then (G_seq (G_seq (G_region (wR 2 [(1, pB n 0), (4, .slice q c.1.length o), (5, .bool c.2), (7, .slice g m.2.length d), (10, iv m.1), (11, iv a0), (69, .bool (decide (a0 < 0)))] Y (W_nil (N_then ?_))))))))
 rcases gx_bif hm with ⟨bn, hm⟩ | ⟨bn, hm⟩
 ·refine gT bn (G_seq (G_region (wR 1 [(2, .bool false)] Y (W_nil (N_then (G_ret (N_then_ret ?_)))))))
  obtain rfl := Option.some.inj hm
  exact N_ret [.bool false] (rC RVs_nil) (⟨rfl, X.pk []⟩)
 refine gF bn (G_skip (N_then (G_seq (G_seq (G_region (wR 3 [(1, pB n 0), (4, .slice q c.1.length o), (5, .bool c.2), (7, .slice g m.2.length d), (10, iv m.1), (72, .bool (a0 != m.1))] Y (W_nil (N_then ?_))))))))
 rcases gx_bif hm with ⟨bo, hm⟩ | ⟨bo, hm⟩
 ·refine gT bo (G_seq (G_region (wR 1 [(2, .bool false)] Y (W_nil (N_then (G_ret (N_then_ret ?_)))))))
  obtain rfl := Option.some.inj hm
  exact N_ret [.bool false] (rC RVs_nil) (⟨rfl, X.pk []⟩)
 refine gF bo (G_skip (N_then (G_seq (G_region (wV (.agg #[.slice y b.Memory.length t, .slice z b.Copy.length u, .slice A b.Dirty.length x]) Y (eL true 3 0 (X.blk 0 rfl)) ?_)))))
 obtain ⟨a3, ec, hm⟩ := gx_bind hm
 refine wC 15 #[.agg #[.slice y b.Memory.length t, .slice z b.Copy.length u, .slice A b.Dirty.length x]] ((c_l_toCopying Y b y t (ai.mem0 X) z u (aj.mem0 X) A x (ak.mem0 X) ec).mono ?_)
 rintro e_ ew ⟨cu, cm, e6, cv, cn, e7, cw, co, e8, rfl, dv, dw, dx, db⟩
 have au := X.call db
 refine ⟨_, rfl, ?_⟩
 obtain ⟨W, ed, hm⟩ := gx_bind hm
 refine wC 26 #[.agg #[.slice cu a3.Memory.length cm, .slice cv a3.Copy.length cn, .slice cw a3.Dirty.length co]] ((c_i_DirtyWords ew a3 cu cm (dv.rd au 3 (by kernel_rfl)) cv cn (dw.rd au 4 (by kernel_rfl)) cw co (dx.rd au 5 (by kernel_rfl)) ed).mono ?_)
 rintro e_ ca ⟨ay, av, e9, rfl, dy, dc⟩
 have bc := au.call dc
 refine ⟨_, rfl, ?_⟩
 refine wR 5 [(4, .slice q c.1.length o), (5, .bool c.2), (7, .slice g m.2.length d), (10, iv m.1), (12, .slice ay W.1.length av), (13, .bool W.2)] ca (W_nil (N_then (G_seq (G_seq ?_))))
 obtain ⟨eh, dz, dp⟩ := gx_bind hm
 refine G_meet (fun a w' => Mem [] w w' [ep] ∧ Sat Try.f5.ntmps [(7, .slice g m.2.length d), (10, iv m.1), (87, .bool eh)] a) ?_ ?_
 ·have hm := dz
  refine G_region (wR 2 [(5, .bool c.2), (7, .slice g m.2.length d), (10, iv m.1), (13, .bool W.2), (79, .slice ay W.1.length av), (80, .slice q c.1.length o)] ca ?_)
  obtain ⟨el, ee, hm⟩ := gx_bind hm
  refine wC 21 #[.slice ay W.1.length av, .slice q c.1.length o] ((c_l_eqIntS ca W.1 ay av (dy.rd bc 6 (by kernel_rfl)) c.1 q o (bw.rd bc 1 (by kernel_rfl)) ee).mono ?_)
  rintro e_ cb ⟨rfl, dd⟩
  have ci := bc.call0 dd
  refine ⟨_, rfl, ?_⟩
  refine wR 2 [(5, .bool c.2), (7, .slice g m.2.length d), (10, iv m.1), (13, .bool W.2), (83, .bool (!el))] cb ?_
  rcases gx_bif hm with ⟨bp, hm⟩ | ⟨bp, hm⟩
  ·refine wK 83 true bp (wR 4 [(7, .slice g m.2.length d), (10, iv m.1), (87, .bool true)] cb (W_nil ?_))
   obtain rfl := Option.some.inj hm
   exact N_meet fun a ha => ⟨ci.pk [2], ha.s⟩
  refine wK 83 false bp (wR 4 [(7, .slice g m.2.length d), (10, iv m.1), (87, .bool (!(W.2 == c.2)))] cb (W_nil ?_))
  obtain rfl := Option.some.inj hm
  exact N_meet fun a ha => ⟨ci.pk [2], ha.s⟩
 intro ez ba ⟨bd, dl⟩
 refine N_use dl ?_
 have hm := dp
 refine N_then ?_
 rcases gx_bif hm with ⟨bq, hm⟩ | ⟨bq, hm⟩
 ·refine gT bq (G_seq (G_region (wR 1 [(2, .bool false)] ba (W_nil (N_then (G_ret (N_then_ret ?_)))))))
  obtain rfl := Option.some.inj hm
  exact N_ret [.bool false] (rC RVs_nil) (⟨rfl, bd.pk []⟩)
 refine gF bq (G_skip (N_then (G_seq (G_region (wR 1 [(7, .slice g m.2.length d), (10, iv m.1), (11, iv 1)] ba (W_nil (N_then (G_seq (G_region (wR 2 [(10, iv m.1), (11, iv 1), (88, .slice g m.2.length d), (89, iv 1)] ba ?_))))))))))
 obtain ⟨a4, ef, hm⟩ := gx_bind hm
 refine wC 27 #[.slice g m.2.length d, iv 1] ((c_l_heldIntS ba m.2 g d (cp.rd bd 0 (by kernel_rfl)) 1 ef).mono ?_)
 rintro e_ ad ⟨rfl, de⟩
 have be := bd.call0 de
 refine ⟨_, rfl, ?_⟩
 refine wR 1 [(10, iv m.1), (11, iv a4)] ad (W_nil (N_then (G_seq (G_seq (G_region (wR 2 [(10, iv m.1), (11, iv a4), (92, .bool (decide (a4 < 0)))] ad (W_nil (N_then ?_))))))))
 rcases gx_bif hm with ⟨br, hm⟩ | ⟨br, hm⟩
 ·refine gT br (G_seq (G_region (wR 1 [(2, .bool false)] ad (W_nil (N_then (G_ret (N_then_ret ?_)))))))
  obtain rfl := Option.some.inj hm
  exact N_ret [.bool false] (rC RVs_nil) (⟨rfl, be.pk []⟩)
 refine gF br (G_skip (N_then (G_seq (G_seq (G_region (wR 3 [(95, .bool (a4 != m.1))] ad (W_nil (N_then ?_))))))))
 rcases gx_bif hm with ⟨bs, hm⟩ | ⟨bs, hm⟩
 ·refine gT bs (G_seq (G_region (wR 1 [(2, .bool false)] ad (W_nil (N_then (G_ret (N_then_ret ?_)))))))
  obtain rfl := Option.some.inj hm
  exact N_ret [.bool false] (rC RVs_nil) (⟨rfl, be.pk []⟩)
 refine gF bs (G_skip (N_then (G_seq (G_region (wR 1 [(2, .bool true)] ad (W_nil (N_then (G_ret ?_))))))))
 obtain rfl := Option.some.inj hm
 exact N_ret [.bool true] (rC RVs_nil) (⟨rfl, be.pk []⟩)
theorem c_s_l19Own (w : World) (a : Copying) (z : Option Addr) (x : Nat) (ar : rdS Gx.encI w a.Memory z x) (A : Option Addr) (y : Nat) (au : rdS Gx.encI w a.Copy A y) (F : Option Addr) (B : Nat) (av : rdS Gx.encB w a.Dirty F B) {r : Copying} (hm : M.s_l19Own a = some r) :
  Calls Try.prog 96 #[.agg #[.slice z a.Memory.length x, .slice A a.Copy.length y, .slice F a.Dirty.length B]] w fun e w' => ∃ (aa : Option Addr) (X : Nat) (ad : Seg), ∃ (ab : Option Addr) (Y : Nat) (ae : Seg), ∃ (ac : Option Addr) (Z : Nat) (af : Seg), e = .returned (.agg #[.slice aa r.Memory.length X, .slice ab r.Copy.length Y, .slice ac r.Dirty.length Z]) ∧ ownS Gx.encI r.Memory aa X ad ∧ ownS Gx.encI r.Copy ab Y ae ∧ ownS Gx.encB r.Dirty ac Z af ∧ Mem [] w w' [ad, ae, af] := by
 unfold M.s_l19Own at hm
 refine cE Try.func96 ?_
 have M0 := Mem.refl [] w
 refine G_seq (G_region (wN (.cells ⟨[.slice z a.Memory.length x, .slice A a.Copy.length y, .slice F a.Dirty.length B]⟩ 28 (0, 0)) M0 ?_))
 intro n bg ai
 refine wN (.cells ⟨[.slice none 0 0, .slice none 0 0, .slice none 0 0]⟩ 28 (0, 0)) ai ?_
 intro K bh aj
 refine W_nil (N_then (G_seq ?_))
 obtain ⟨t, ay, hm⟩ := gx_bind hm
 obtain ⟨u, az, hm⟩ := gx_bind hm
 refine G_sub [(0, .agg #[.slice z a.Memory.length x, .slice A a.Copy.length y, .slice F a.Dirty.length B]), (1, pB n 0), (2, pB K 0)] (by kernel_rfl) (G_dagL 9 [[], [0], [1], [], [3], [4], [], [], [7]] [[], [], [], [], [], [], [], [], []] [[], [], [], [], [], [], [], [], []] [[], [], [], [], [], [], [], [], []] [[], [], [], [], [], [], [], [], []] [[], [], [], [], [], [], [], [], []] (fun _ => []) (fun i => ([fun f v s => v = (pB n 0 : Value) ∧ s = [], fun f v s => v = (.slice z a.Memory.length x : Value) ∧ s = [], fun f v s => ∃ (l : Option Addr) (c : Nat), v = (.slice l t.length c : Value) ∧ ownS Gx.encI t l c s, fun f v s => v = (pB n 1 : Value) ∧ s = [], fun f v s => v = (.slice A a.Copy.length y : Value) ∧ s = [], fun f v s => ∃ (m : Option Addr) (d : Nat), v = (.slice m u.length d : Value) ∧ ownS Gx.encI u m d s, fun f v s => ∃ (G : Option Addr) (C : Nat), v = (.slice G ([] : List Bool).length C : Value) ∧ ownS Gx.encB ([] : List Bool) G C s, fun f v s => v = (pB n 2 : Value) ∧ s = [], fun f v s => v = (.slice F a.Dirty.length B : Value) ∧ s = []] : List ((Nat → Value) → Value → Seg → Prop)).getD i (fun _ _ _ => False)) (fun j f v => ∃ s, (fun i => ([fun f v s => v = (pB n 0 : Value) ∧ s = [], fun f v s => v = (.slice z a.Memory.length x : Value) ∧ s = [], fun f v s => ∃ (l : Option Addr) (c : Nat), v = (.slice l t.length c : Value) ∧ ownS Gx.encI t l c s, fun f v s => v = (pB n 1 : Value) ∧ s = [], fun f v s => v = (.slice A a.Copy.length y : Value) ∧ s = [], fun f v s => ∃ (m : Option Addr) (d : Nat), v = (.slice m u.length d : Value) ∧ ownS Gx.encI u m d s, fun f v s => ∃ (G : Option Addr) (C : Nat), v = (.slice G ([] : List Bool).length C : Value) ∧ ownS Gx.encB ([] : List Bool) G C s, fun f v s => v = (pB n 2 : Value) ∧ s = [], fun f v s => v = (.slice F a.Dirty.length B : Value) ∧ s = []] : List ((Nat → Value) → Value → Seg → Prop)).getD i (fun _ _ _ => False)) j f v s) [] [2, 5, 6, 8] [2, 5, 6] (fun _ _ _ s h => ⟨s, h⟩) (by kernel_rfl) (by kernel_rfl) (aj.preNil 9) (by kernel_rfl) (by kernel_rfl) (by kernel_rfl) (by kernel_rfl) (allOb_cons ?_ (allOb_cons ?_ (allOb_cons ?_ (allOb_cons ?_ (allOb_cons ?_ (allOb_cons ?_ (allOb_cons ?_ (allOb_cons ?_ (allOb_cons ?_ allOb_nil))))))))) ?_)
 ·intro q D
  intro R a6 ak
  exact wR 1 [(3, pB n 0)] a6 (W_nil (oE (pB n 0) [] ⟨by kernel_rfl, rfl⟩ ak))
 ·intro q D
  intro v0_ hb0_
  obtain ⟨rfl, _⟩ := hb0_
  intro R a7 P
  exact wV (.slice z a.Memory.length x) a7 (eL false 1 0 (P.blk 0 rfl)) (W_nil (oE (.slice z a.Memory.length x) [] ⟨by kernel_rfl, rfl⟩ P))
 ·intro q D
  intro v1_ hb1_
  obtain ⟨rfl, _⟩ := hb1_
  intro R a8 Q
  refine wC 61 #[.slice z a.Memory.length x] ((c_s_l1Own a8 a.Memory z x (ar.mem0 Q) ay).mono ?_)
  rintro e_ bi ⟨l, c, a0, rfl, L, ag⟩
  refine ⟨_, rfl, ?_⟩
  exact W_nil (oE (.slice l t.length c) a0 ⟨l, c, rfl, L⟩ (Mem.callMid Q ag))
 ·intro q D
  intro R a9 al
  exact wR 1 [(6, pB n 1)] a9 (W_nil (oE (pB n 1) [] ⟨by kernel_rfl, rfl⟩ al))
 ·intro q D
  intro v3_ hb3_
  obtain ⟨rfl, _⟩ := hb3_
  intro R ba S
  exact wV (.slice A a.Copy.length y) ba (eL false 1 1 (S.blk 0 rfl)) (W_nil (oE (.slice A a.Copy.length y) [] ⟨by kernel_rfl, rfl⟩ S))
 ·intro q D
  intro v4_ hb4_
  obtain ⟨rfl, _⟩ := hb4_
  intro R bb T
  refine wC 61 #[.slice A a.Copy.length y] ((c_s_l1Own bb a.Copy A y (au.mem0 T) az).mono ?_)
  rintro e_ bj ⟨m, d, a3, rfl, N, ah⟩
  refine ⟨_, rfl, ?_⟩
  exact W_nil (oE (.slice m u.length d) a3 ⟨m, d, rfl, N⟩ (Mem.callMid T ah))
 ·intro q D
  intro R bk am
  refine wL (E := Gx.encB) ([] : List Bool) 0 [] 4 am ?_
  intro G C a4 bl O an
  exact W_nil (oE (.slice G ([] : List Bool).length C) a4 ⟨G, C, rfl, O⟩ (Mem.mid an))
 ·intro q D
  intro R bc ao
  exact wR 1 [(10, pB n 2)] bc (W_nil (oE (pB n 2) [] ⟨by kernel_rfl, rfl⟩ ao))
 ·intro q D
  intro v7_ hb7_
  obtain ⟨rfl, _⟩ := hb7_
  intro R bd U
  exact wV (.slice F a.Dirty.length B) bd (eL false 1 2 (U.blk 0 rfl)) (W_nil (oE (.slice F a.Dirty.length B) [] ⟨by kernel_rfl, rfl⟩ U))
 intro q D
 intro v2_ hb2_
 obtain ⟨l, c, rfl, L⟩ := hb2_
 intro v5_ hb5_
 obtain ⟨m, d, rfl, N⟩ := hb5_
 intro v6_ hb6_
 obtain ⟨G, C, rfl, O⟩ := hb6_
 intro v8_ hb8_
 obtain ⟨rfl, _⟩ := hb8_
 intro be ap
 have V : Mem [] w be [[(n, .cells ⟨[.slice z a.Memory.length x, .slice A a.Copy.length y, .slice F a.Dirty.length B]⟩ 28 (0, 0))], [(K, .cells ⟨[.slice none 0 0, .slice none 0 0, .slice none 0 0]⟩ 28 (0, 0))], (q 2), (q 5), (q 6)] := ap
 obtain ⟨J, aw, hm⟩ := gx_bind hm
 refine wA 1 [.bool false] 4 V O (av.mem0 V) aw ?_
 intro I H a5 bf ax aq
 refine wR 1 [(2, pB K 0), (13, .agg #[.slice l t.length c, .slice m u.length d, .slice I J.length H])] bf (wS true 3 0 (.agg #[.slice l t.length c, .slice m u.length d, .slice I J.length H]) 1 [.slice l t.length c, .slice m u.length d, .slice I J.length H] aq rfl ?_)
 intro bm W
 refine W_nil (N_then (G_ret ?_))
 obtain rfl := Option.some.inj hm
 exact N_ret [.agg #[.slice l t.length c, .slice m u.length d, .slice I J.length H]] (RVs_cons (RV_cell (g := true) (k := 3) (b := K) (off := 0) (cs := [.slice l t.length c, .slice m u.length d, .slice I J.length H]) (e := 28) (fr := (0, 0)) (v := .agg #[.slice l t.length c, .slice m u.length d, .slice I J.length H]) (W.blk 1 (b := K) (o := .cells ⟨[.slice l t.length c, .slice m u.length d, .slice I J.length H]⟩ 28 (0, 0)) (by kernel_rfl)) (by kernel_rfl) (by kernel_rfl) (by kernel_rfl)) RVs_nil) (⟨l, c, (q 2), m, d, (q 5), I, H, a5, rfl, L, N, ax, W.pk [2, 3, 4]⟩)
theorem c_s_l19Round (w : World) (d : Copying) (A : Option Addr) (F : Nat) (af : rdS Gx.encI w d.Memory A F) (I : Option Addr) (H : Nat) (bu : rdS Gx.encI w d.Copy I H) (D : Option Addr) (G : Nat) (ag : rdS Gx.encB w d.Dirty D G) (B : Int) {r : Copying × Int} (hm : M.s_l19Round d B = some r) :
  Calls Try.prog 67 #[.agg #[.slice A d.Memory.length F, .slice I d.Copy.length H, .slice D d.Dirty.length G], iv B] w fun e w' => ∃ (a4 : Option Addr) (av : Nat) (a7 : Seg), ∃ (a5 : Option Addr) (aw : Nat) (a8 : Seg), ∃ (a6 : Option Addr) (ax : Nat) (a9 : Seg), e = .returned (.tuple #[.agg #[.slice a4 r.1.Memory.length av, .slice a5 r.1.Copy.length aw, .slice a6 r.1.Dirty.length ax], iv r.2]) ∧ ownS Gx.encI r.1.Memory a4 av a7 ∧ ownS Gx.encI r.1.Copy a5 aw a8 ∧ ownS Gx.encB r.1.Dirty a6 ax a9 ∧ Mem [] w w' [a7, a8, a9] := by
 unfold M.s_l19Round at hm
 refine cE Try.func67 ?_
 have M0 := Mem.refl [] w
 refine G_seq (G_region (wN (.cells ⟨[.slice A d.Memory.length F, .slice I d.Copy.length H, .slice D d.Dirty.length G]⟩ 28 (0, 0)) M0 ?_))
 intro l c1 bh
 refine wN (.cells ⟨[.slice none 0 0, .slice none 0 0, .slice none 0 0]⟩ 28 (0, 0)) bh ?_
 intro m al T
 refine wR 1 [(1, iv B), (2, pB l 0), (4, pB m 0)] al (W_nil (N_then (G_seq (G_region (wV (.agg #[.slice A d.Memory.length F, .slice I d.Copy.length H, .slice D d.Dirty.length G]) al (eL true 3 0 (T.blk 0 rfl)) ?_)))))
 obtain ⟨z, cf, hm⟩ := gx_bind hm
 refine wC 96 #[.agg #[.slice A d.Memory.length F, .slice I d.Copy.length H, .slice D d.Dirty.length G]] ((c_s_l19Own al d A F (af.mem0 T) I H (bu.mem0 T) D G (ag.mem0 T) cf).mono ?_)
 rintro e_ c2 ⟨E, C, N, q, t, ci, u, x, cj, rfl, b3, b4, b5, bg⟩
 have bi := T.call bg
 refine ⟨_, rfl, ?_⟩
 refine wN (.cells ⟨[.slice none 0 0, .slice none 0 0, .slice none 0 0]⟩ 28 (0, 0)) bi ?_
 intro n c3 bj
 refine wS true 3 0 (.agg #[.slice E z.Memory.length C, .slice q z.Copy.length t, .slice u z.Dirty.length x]) 5 [.slice E z.Memory.length C, .slice q z.Copy.length t, .slice u z.Dirty.length x] bj rfl ?_
 intro bb bk
 refine wR 1 [(1, iv B), (2, pB l 0), (4, pB m 0), (6, pB n 0), (7, iv 0)] bb (W_nil (N_then (G_seq (G_seq (G_region (wR 1 [(1, iv B), (2, pB l 0), (4, pB m 0), (6, pB n 0), (7, iv 0), (8, iv 0)] bb (W_nil (N_then ?_))))))))
 obtain ⟨y, cg, b2⟩ := gx_bind hm
 refine G_meet (fun a w' => ∃ (Z : Seg), ∃ (aa : Seg), ownS Gx.encI y.2.1 q t Z ∧ ownS Gx.encB y.2.2 u x aa ∧ Mem [] w w' [[(m, .cells ⟨[.slice none 0 0, .slice none 0 0, .slice none 0 0]⟩ 28 (0, 0))], N, [(n, .cells ⟨[.slice E z.Memory.length C, .slice q y.2.1.length t, .slice u y.2.2.length x]⟩ 28 (0, 0))], Z, aa] ∧ Sat Try.f67.ntmps [(4, pB m 0), (6, pB n 0), (7, iv y.1)] a) ?_ ?_
 ·refine G_block (G_while (σ := Int × Int × List Int × List Bool) (ρ := Int × List Int × List Bool) (fun c a w' => ∃ (P : Seg), ∃ (O : Seg), ownS Gx.encI c.2.2.1 q t P ∧ ownS Gx.encB c.2.2.2 u x O ∧ Mem [] w w' [[(l, .cells ⟨[.slice A d.Memory.length F, .slice I d.Copy.length H, .slice D d.Dirty.length G]⟩ 28 (0, 0))], [(m, .cells ⟨[.slice none 0 0, .slice none 0 0, .slice none 0 0]⟩ 28 (0, 0))], N, [(n, .cells ⟨[.slice E z.Memory.length C, .slice q c.2.2.1.length t, .slice u c.2.2.2.length x]⟩ 28 (0, 0))], P, O] ∧ Sat Try.f67.ntmps [(1, iv B), (2, pB l 0), (4, pB m 0), (6, pB n 0), (7, iv c.1), (8, iv c.2.1)] a) cg (fun a ha => ⟨ci, cj, b4, b5, bk.pk [0, 1, 2, 5, 3, 4], ha.s⟩) ?_)
  clear hm
  intro c c4 hm ce cx U ⟨P, O, X, Y, ad, bv⟩
  refine G_use bv (G_seq (G_seq ?_))
  obtain ⟨ch, b8, b0⟩ := gx_bind hm
  refine G_meet (fun a w' => Mem [] w w' [[(l, .cells ⟨[.slice A d.Memory.length F, .slice I d.Copy.length H, .slice D d.Dirty.length G]⟩ 28 (0, 0))], [(m, .cells ⟨[.slice none 0 0, .slice none 0 0, .slice none 0 0]⟩ 28 (0, 0))], N, [(n, .cells ⟨[.slice E z.Memory.length C, .slice q c.2.2.1.length t, .slice u c.2.2.2.length x]⟩ 28 (0, 0))], P, O] ∧ Sat Try.f67.ntmps [(1, iv B), (2, pB l 0), (4, pB m 0), (6, pB n 0), (7, iv c.1), (8, iv c.2.1), (20, .bool ch)] a) ?_ ?_
  ·have hm := b8
   refine G_region (wR 2 [(1, iv B), (2, pB l 0), (4, pB m 0), (6, pB n 0), (7, iv c.1), (8, iv c.2.1), (11, iv c.2.1), (12, pB l 2)] U (wV (.slice D d.Dirty.length G) U (eL false 1 2 (ad.blk 0 rfl)) (wR 3 [(1, iv B), (2, pB l 0), (4, pB m 0), (6, pB n 0), (7, iv c.1), (8, iv c.2.1), (16, .bool (decide (c.2.1 < (d.Dirty.length : Int))))] U ?_)))
   rcases gx_bif hm with ⟨ah, hm⟩ | ⟨ah, hm⟩
   ·refine wK 16 true ah (wR 4 [(1, iv B), (2, pB l 0), (4, pB m 0), (6, pB n 0), (7, iv c.1), (8, iv c.2.1), (20, .bool (decide (c.1 < B)))] U (W_nil ?_))
    obtain rfl := Option.some.inj hm
    exact N_meet fun a ha => ⟨ad.pk [0, 1, 2, 3, 4, 5], ha.s⟩
   refine wK 16 false ah (wR 4 [(1, iv B), (2, pB l 0), (4, pB m 0), (6, pB n 0), (7, iv c.1), (8, iv c.2.1), (20, .bool false)] U (W_nil ?_))
   obtain rfl := Option.some.inj hm
   exact N_meet fun a ha => ⟨ad.pk [0, 1, 2, 3, 4, 5], ha.s⟩
  intro cy V ⟨Q, bw⟩
  refine N_use bw ?_
  have hm := b0
  refine N_then ?_
  rcases gx_bif hm with ⟨ai, hm⟩ | ⟨ai, hm⟩
  ·refine gT ai (G_skip (N_then (G_seq (G_block (G_seq (G_region (wR 1 [(1, iv B), (2, pB l 0), (4, pB m 0), (6, pB n 0), (7, iv c.1), (8, iv c.2.1), (23, pB l 2)] V (wV (.slice D d.Dirty.length G) V (eL false 1 2 (Q.blk 0 rfl)) (wR 1 [(1, iv B), (2, pB l 0), (4, pB m 0), (6, pB n 0), (7, iv c.1), (8, iv c.2.1), (24, .slice D d.Dirty.length G), (25, iv c.2.1)] V ?_)))))))))
   obtain ⟨bf, ay, hm⟩ := gx_bind hm
   refine wV (elemP D (c.2.1.toNat * 1)) V (eI (ag.mem0 Q) rfl ay) (wV (.bool bf) V (eE false 1 0 (c.2.1.toNat * 1) (ag.mem0 Q) ay) (W_nil (N_then ?_)))
   obtain ⟨S, b9, b1⟩ := gx_bind hm
   refine G_meet (fun a w' => ∃ (ab : Seg), ∃ (ac : Seg), ownS Gx.encI S.2.1 q t ab ∧ ownS Gx.encB S.2.2 u x ac ∧ Mem [] w w' [[(l, .cells ⟨[.slice A d.Memory.length F, .slice I d.Copy.length H, .slice D d.Dirty.length G]⟩ 28 (0, 0))], [(m, .cells ⟨[.slice none 0 0, .slice none 0 0, .slice none 0 0]⟩ 28 (0, 0))], N, [(n, .cells ⟨[.slice E z.Memory.length C, .slice q S.2.1.length t, .slice u S.2.2.length x]⟩ 28 (0, 0))], ab, ac] ∧ Sat Try.f67.ntmps [(1, iv B), (2, pB l 0), (4, pB m 0), (6, pB n 0), (7, iv S.1), (8, iv c.2.1)] a) ?_ ?_
   ·have hm := b9
    rcases gx_bif hm with ⟨aj, hm⟩ | ⟨aj, hm⟩
    ·refine gT aj (G_seq ?_)
     obtain ⟨J, az, hm⟩ := gx_bind hm
     refine G_sub [(1, iv B), (2, pB l 0), (4, pB m 0), (6, pB n 0), (7, iv c.1), (8, iv c.2.1), (24, .slice D d.Dirty.length G), (25, iv c.2.1), (26, elemP D (c.2.1.toNat * 1)), (27, .bool bf)] (by kernel_rfl) (G_dagL 8 [[], [0], [], [], [3], [], [4, 5], [6]] [[], [], [], [], [], [], [], []] [[], [], [], [], [], [], [], []] [[], [], [], [], [], [], [], []] [[], [], [], [], [], [], [], []] [[], [], [], [], [], [], [], []] (fun _ => []) (fun i => ([fun f v s => v = (pB n 1 : Value) ∧ s = [], fun f v s => v = (.slice q c.2.2.1.length t : Value) ∧ s = [], fun f v s => v = (iv c.2.1 : Value) ∧ s = [], fun f v s => v = (pB l 0 : Value) ∧ s = [], fun f v s => v = (.slice A d.Memory.length F : Value) ∧ s = [], fun f v s => v = (iv c.2.1 : Value) ∧ s = [], fun f v s => v = (elemP A (c.2.1.toNat * 1) : Value) ∧ s = [], fun f v s => v = (iv J : Value) ∧ s = []] : List ((Nat → Value) → Value → Seg → Prop)).getD i (fun _ _ _ => False)) (fun j f v => ∃ s, (fun i => ([fun f v s => v = (pB n 1 : Value) ∧ s = [], fun f v s => v = (.slice q c.2.2.1.length t : Value) ∧ s = [], fun f v s => v = (iv c.2.1 : Value) ∧ s = [], fun f v s => v = (pB l 0 : Value) ∧ s = [], fun f v s => v = (.slice A d.Memory.length F : Value) ∧ s = [], fun f v s => v = (iv c.2.1 : Value) ∧ s = [], fun f v s => v = (elemP A (c.2.1.toNat * 1) : Value) ∧ s = [], fun f v s => v = (iv J : Value) ∧ s = []] : List ((Nat → Value) → Value → Seg → Prop)).getD i (fun _ _ _ => False)) j f v s) [] [1, 2, 7] [] (fun _ _ _ s h => ⟨s, h⟩) (by kernel_rfl) (by kernel_rfl) (Q.preNil 8) (by kernel_rfl) (by kernel_rfl) (by kernel_rfl) (by kernel_rfl) (allOb_cons ?_ (allOb_cons ?_ (allOb_cons ?_ (allOb_cons ?_ (allOb_cons ?_ (allOb_cons ?_ (allOb_cons ?_ (allOb_cons ?_ allOb_nil)))))))) ?_)
     ·intro L K
      intro R ck bl
      exact wR 1 [(28, pB n 1)] ck (W_nil (oE (pB n 1) [] ⟨by kernel_rfl, rfl⟩ bl))
     ·intro L K
      intro v0_ hb0_
      obtain ⟨rfl, _⟩ := hb0_
      intro R cl am
      exact wV (.slice q c.2.2.1.length t) cl (eL false 1 1 (am.blk 3 rfl)) (W_nil (oE (.slice q c.2.2.1.length t) [] ⟨by kernel_rfl, rfl⟩ am))
     ·intro L K
      intro R cm bm
      exact wR 1 [(30, iv c.2.1)] cm (W_nil (oE (iv c.2.1) [] ⟨by kernel_rfl, rfl⟩ bm))
     ·intro L K
      intro R cn bn
      exact wR 1 [(31, pB l 0)] cn (W_nil (oE (pB l 0) [] ⟨by kernel_rfl, rfl⟩ bn))
     ·intro L K
      intro v3_ hb3_
      obtain ⟨rfl, _⟩ := hb3_
      intro R co an
      exact wV (.slice A d.Memory.length F) co (eL false 1 0 (an.blk 0 rfl)) (W_nil (oE (.slice A d.Memory.length F) [] ⟨by kernel_rfl, rfl⟩ an))
     ·intro L K
      intro R cp bo
      exact wR 1 [(33, iv c.2.1)] cp (W_nil (oE (iv c.2.1) [] ⟨by kernel_rfl, rfl⟩ bo))
     ·intro L K
      intro v4_ hb4_
      obtain ⟨rfl, _⟩ := hb4_
      intro v5_ hb5_
      obtain ⟨rfl, _⟩ := hb5_
      intro R cq ao
      exact wV (elemP A (c.2.1.toNat * 1)) cq (eI (af.mem0 ao) rfl az) (W_nil (oE (elemP A (c.2.1.toNat * 1)) [] ⟨by kernel_rfl, rfl⟩ ao))
     ·intro L K
      intro v6_ hb6_
      obtain ⟨rfl, _⟩ := hb6_
      intro R cr ap
      exact wV (iv J) cr (eE false 1 0 (c.2.1.toNat * 1) (af.mem0 ap) az) (W_nil (oE (iv J) [] ⟨by kernel_rfl, rfl⟩ ap))
     intro L K
     intro v1_ hb1_
     obtain ⟨rfl, _⟩ := hb1_
     intro v2_ hb2_
     obtain ⟨rfl, _⟩ := hb2_
     intro v7_ hb7_
     obtain ⟨rfl, _⟩ := hb7_
     intro bc bp
     have aq : Mem [] w bc [[(l, .cells ⟨[.slice A d.Memory.length F, .slice I d.Copy.length H, .slice D d.Dirty.length G]⟩ 28 (0, 0))], [(m, .cells ⟨[.slice none 0 0, .slice none 0 0, .slice none 0 0]⟩ 28 (0, 0))], N, [(n, .cells ⟨[.slice E z.Memory.length C, .slice q c.2.2.1.length t, .slice u c.2.2.2.length x]⟩ 28 (0, 0))], P, O] := bp
     obtain ⟨cv, a0, hm⟩ := gx_bind hm
     refine wV (elemP q (c.2.1.toNat * 1)) bc (eI (X.rd aq 4 (by kernel_rfl)) rfl a0) (wE false 1 c.2.1.toNat 0 (c.2.1.toNat * 1) cv J (iv J) 4 aq X (gxIdx_spec a0).2 ?_)
     intro W ak cc bq
     refine wX 29 (.slice q c.2.2.1.length t) (.slice q (c.2.2.1.set c.2.1.toNat J).length t) (by rw [@List.length_set _ c.2.2.1 c.2.1.toNat J]) ?_
     have ae : Mem [] w W [[(l, .cells ⟨[.slice A d.Memory.length F, .slice I d.Copy.length H, .slice D d.Dirty.length G]⟩ 28 (0, 0))], [(m, .cells ⟨[.slice none 0 0, .slice none 0 0, .slice none 0 0]⟩ 28 (0, 0))], N, [(n, .cells ⟨[.slice E z.Memory.length C, .slice q (c.2.2.1.set c.2.1.toNat J).length t, .slice u c.2.2.2.length x]⟩ 28 (0, 0))], ak, O] := by rw [@List.length_set _ c.2.2.1 c.2.1.toNat J]; exact bq
     refine W_nil (N_then (G_seq (G_region (wR 1 [(1, iv B), (2, pB l 0), (4, pB m 0), (6, pB n 0), (7, iv c.1), (8, iv c.2.1), (37, pB n 2)] W (wV (.slice u c.2.2.2.length x) W (eL false 1 2 (ae.blk 3 rfl)) (wR 1 [(1, iv B), (2, pB l 0), (4, pB m 0), (6, pB n 0), (7, iv c.1), (8, iv c.2.1), (38, .slice u c.2.2.2.length x), (39, iv c.2.1)] W ?_))))))
     obtain ⟨cw, a3, hm⟩ := gx_bind hm
     refine wV (elemP u (c.2.1.toNat * 1)) W (eI (Y.rd ae 5 (by kernel_rfl)) rfl a3) (wE false 1 c.2.1.toNat 0 (c.2.1.toNat * 1) cw false (.bool false) 5 ae Y (gxIdx_spec a3).2 ?_)
     intro bd ba cd br
     refine wX 38 (.slice u c.2.2.2.length x) (.slice u (c.2.2.2.set c.2.1.toNat false).length x) (by rw [@List.length_set _ c.2.2.2 c.2.1.toNat false]) ?_
     have bs : Mem [] w bd [[(l, .cells ⟨[.slice A d.Memory.length F, .slice I d.Copy.length H, .slice D d.Dirty.length G]⟩ 28 (0, 0))], [(m, .cells ⟨[.slice none 0 0, .slice none 0 0, .slice none 0 0]⟩ 28 (0, 0))], N, [(n, .cells ⟨[.slice E z.Memory.length C, .slice q (c.2.2.1.set c.2.1.toNat J).length t, .slice u (c.2.2.2.set c.2.1.toNat false).length x]⟩ 28 (0, 0))], ak, ba] := by rw [@List.length_set _ c.2.2.2 c.2.1.toNat false]; exact br
     refine W_nil (N_then (G_region (wR 3 [(1, iv B), (2, pB l 0), (4, pB m 0), (6, pB n 0), (7, iv (w64 (c.1 + 1))), (8, iv c.2.1)] bd (W_nil ?_))))
     obtain rfl := Option.some.inj hm
     exact N_meet fun a ha => ⟨ak, ba, cc, cd, bs.pk [0, 1, 2, 3, 4, 5], ha.s⟩
    refine gF aj (G_skip ?_)
    obtain rfl := Option.some.inj hm
    exact N_meet fun a ha => ⟨P, O, X, Y, Q.pk [0, 1, 2, 3, 4, 5], ha.s⟩
   intro cz ct ⟨ab, ac, ca, cb, bt, bx⟩
   refine N_use bx ?_
   have hm := b1
   refine N_block (N_then (G_region (wR 3 [(1, iv B), (2, pB l 0), (4, pB m 0), (6, pB n 0), (7, iv S.1), (8, iv (w64 (c.2.1 + 1)))] ct (W_nil ?_))))
   obtain rfl := Option.some.inj hm
   exact N_loop fun a ha => ⟨_, rfl, ab, ac, ca, cb, bt.pk [0, 1, 2, 3, 4, 5], ha.s⟩
  refine gF ai (G_exit (N_then_exit (N_then_exit (N_block_eq ?_))))
  obtain rfl := Option.some.inj hm
  obtain rfl := ce _ rfl
  exact N_meet fun a ha => ⟨P, O, X, Y, Q.pk [1, 2, 3, 4, 5], ha.s⟩
 intro c0 be ⟨Z, aa, b6, b7, ar, bz⟩
 refine N_use bz ?_
 have hm := b2
 refine N_then (G_seq (G_region (wV (.agg #[.slice E z.Memory.length C, .slice q y.2.1.length t, .slice u y.2.2.length x]) be (eL true 3 0 (ar.blk 2 rfl)) (wR 1 [(4, pB m 0), (43, .agg #[.slice E z.Memory.length C, .slice q y.2.1.length t, .slice u y.2.2.length x]), (44, iv y.1)] be (wS true 3 0 (.agg #[.slice E z.Memory.length C, .slice q y.2.1.length t, .slice u y.2.2.length x]) 0 [.slice E z.Memory.length C, .slice q y.2.1.length t, .slice u y.2.2.length x] ar rfl ?_)))))
 intro cu au
 refine wR 1 [(4, pB m 0), (5, iv y.1)] cu (W_nil (N_then (G_ret ?_)))
 obtain rfl := Option.some.inj hm
 exact N_ret [.agg #[.slice E z.Memory.length C, .slice q y.2.1.length t, .slice u y.2.2.length x], iv y.1] (RVs_cons (RV_cell (g := true) (k := 3) (b := m) (off := 0) (cs := [.slice E z.Memory.length C, .slice q y.2.1.length t, .slice u y.2.2.length x]) (e := 28) (fr := (0, 0)) (v := .agg #[.slice E z.Memory.length C, .slice q y.2.1.length t, .slice u y.2.2.length x]) (au.blk 0 (b := m) (o := .cells ⟨[.slice E z.Memory.length C, .slice q y.2.1.length t, .slice u y.2.2.length x]⟩ 28 (0, 0)) (by kernel_rfl)) (by kernel_rfl) (by kernel_rfl) (by kernel_rfl)) (rC RVs_nil)) (⟨E, C, N, q, t, Z, u, x, aa, rfl, b3, b6, b7, au.pk [1, 3, 4]⟩)
theorem c_s_FinishCopy (w : World) (a : Copying) (g : Option Addr) (c : Nat) (G : rdS Gx.encI w a.Memory g c) (h : Option Addr) (d : Nat) (H : rdS Gx.encI w a.Copy h d) (i : Option Addr) (f : Nat) (I : rdS Gx.encB w a.Dirty i f) {r : (List Int) × Int × Bool} (hm : M.s_FinishCopy a = some r) :
  Calls Try.prog 28 #[.agg #[.slice g a.Memory.length c, .slice h a.Copy.length d, .slice i a.Dirty.length f]] w fun e w' => ∃ (J : Option Addr) (F : Nat) (K : Seg), e = .returned (.tuple #[.slice J r.1.length F, iv r.2.1, .bool r.2.2]) ∧ ownS Gx.encI r.1 J F K ∧ Mem [] w w' [K] := by
 unfold M.s_FinishCopy at hm
 refine cE Try.func28 ?_
 have M0 := Mem.refl [] w
 refine G_seq (G_region (wN (.cells ⟨[.slice g a.Memory.length c, .slice h a.Copy.length d, .slice i a.Dirty.length f]⟩ 28 (0, 0)) M0 ?_))
 intro C z m
 refine wR 3 [(1, pB C 0)] z (W_nil (N_then (G_seq (G_seq (G_region (wV (.agg #[.slice g a.Memory.length c, .slice h a.Copy.length d, .slice i a.Dirty.length f]) z (eL true 3 0 (m.blk 0 rfl)) ?_))))))
 obtain ⟨V, T, hm⟩ := gx_bind hm
 refine wC 56 #[.agg #[.slice g a.Memory.length c, .slice h a.Copy.length d, .slice i a.Dirty.length f]] ((c_s_l19Good z a g c (G.mem0 m) h d (H.mem0 m) i f (I.mem0 m) T).mono ?_)
 rintro e_ A ⟨rfl, L⟩
 have l := m.call0 L
 refine ⟨_, rfl, ?_⟩
 refine wR 1 [(1, pB C 0), (9, .bool (!V))] A (W_nil (N_then ?_))
 rcases gx_bif hm with ⟨u, hm⟩ | ⟨u, hm⟩
 ·refine gT u (G_seq (G_region (wL (E := Gx.encI) ([] : List Int) 0 [] 3 l ?_)))
  intro v o W Y R O
  refine wR 3 [(2, .slice v ([] : List Int).length o), (3, iv 0), (4, .bool false)] Y (W_nil (N_then (G_ret (N_then_ret ?_))))
  obtain rfl := Option.some.inj hm
  exact N_ret [.slice v ([] : List Int).length o, iv 0, .bool false] (rC (rC (rC RVs_nil))) (⟨v, o, W, rfl, R, O.pk [1]⟩)
 refine gF u (G_skip (N_then (G_seq (G_region (wV (.agg #[.slice g a.Memory.length c, .slice h a.Copy.length d, .slice i a.Dirty.length f]) A (eL true 3 0 (l.blk 0 rfl)) ?_)))))
 obtain ⟨b, U, hm⟩ := gx_bind hm
 refine wC 67 #[.agg #[.slice g a.Memory.length c, .slice h a.Copy.length d, .slice i a.Dirty.length f], iv 12] ((c_s_l19Round A a g c (G.mem0 l) h d (H.mem0 l) i f (I.mem0 l) 12 U).mono ?_)
 rintro e_ Z ⟨x, q, ac, k, j, X, y, t, ad, rfl, aa, S, ab, N⟩
 have P := l.call N
 refine ⟨_, rfl, ?_⟩
 refine wR 3 [(14, .agg #[.slice x b.1.Memory.length q, .slice k b.1.Copy.length j, .slice y b.1.Dirty.length t]), (15, iv b.2)] Z (wN (.cells ⟨[.slice none 0 0, .slice none 0 0, .slice none 0 0]⟩ 28 (0, 0)) P ?_)
 intro D ae Q
 refine wS true 3 0 (.agg #[.slice x b.1.Memory.length q, .slice k b.1.Copy.length j, .slice y b.1.Dirty.length t]) 4 [.slice x b.1.Memory.length q, .slice k b.1.Copy.length j, .slice y b.1.Dirty.length t] Q rfl ?_
 intro n B
 refine wR 1 [(5, pB D 0), (6, iv b.2)] n (W_nil (N_then (G_seq (G_region (wR 1 [(6, iv b.2), (16, pB D 1)] n (wV (.slice k b.1.Copy.length j) n (eL false 1 1 (B.blk 4 rfl)) (wR 4 [(2, .slice k b.1.Copy.length j), (3, iv b.2), (4, .bool true)] n (W_nil (N_then (G_ret ?_))))))))))
 obtain rfl := Option.some.inj hm
 exact N_ret [.slice k b.1.Copy.length j, iv b.2, .bool true] (rC (rC (rC RVs_nil))) (⟨k, j, X, rfl, S, B.pk [2]⟩)
theorem c_i_FinishCopy (w : World) (a : Copying) (c : Option Addr) (b : Nat) (C : rdS Gx.encI w a.Memory c b) (m : Option Addr) (k : Nat) (L : rdS Gx.encI w a.Copy m k) (n : Option Addr) (l : Nat) (N : rdS Gx.encB w a.Dirty n l) {r : (List Int) × Int × Bool} (hm : M.i_FinishCopy a = some r) :
  Calls Try.prog 29 #[.agg #[.slice c a.Memory.length b, .slice m a.Copy.length k, .slice n a.Dirty.length l]] w fun e w' => ∃ (P : Option Addr) (K : Nat) (S : Seg), e = .returned (.tuple #[.slice P r.1.length K, iv r.2.1, .bool r.2.2]) ∧ ownS Gx.encI r.1 P K S ∧ Mem [] w w' [S] := by
 unfold M.i_FinishCopy at hm
 refine cE Try.func29 ?_
 have M0 := Mem.refl [] w
 refine G_seq (G_region (wN (.cells ⟨[.slice c a.Memory.length b, .slice m a.Copy.length k, .slice n a.Dirty.length l]⟩ 28 (0, 0)) M0 ?_))
 intro y F A
 refine wR 3 [(1, pB y 0)] F (W_nil (N_then (G_seq (G_seq (G_region (wV (.agg #[.slice c a.Memory.length b, .slice m a.Copy.length k, .slice n a.Dirty.length l]) F (eL true 3 0 (A.blk 0 rfl)) ?_))))))
 obtain ⟨Q, ad, hm⟩ := gx_bind hm
 refine wC 16 #[.agg #[.slice c a.Memory.length b, .slice m a.Copy.length k, .slice n a.Dirty.length l]] ((c_i_IsCopying F a c b (C.mem0 A) m k (L.mem0 A) n l (N.mem0 A) ad).mono ?_)
 rintro e_ T ⟨rfl, V⟩
 have G := A.call0 V
 refine ⟨_, rfl, ?_⟩
 refine wR 1 [(1, pB y 0), (7, .bool (!Q))] T (W_nil (N_then ?_))
 rcases gx_bif hm with ⟨D, hm⟩ | ⟨D, hm⟩
 ·refine gT D (G_seq (G_region (wR 3 [(2, .slice none 0 0), (3, iv 0), (4, .bool false)] T (W_nil (N_then (G_ret (N_then_ret ?_)))))))
  obtain rfl := Option.some.inj hm
  exact N_ret [.slice none 0 0, iv 0, .bool false] (rC (rC (rC RVs_nil))) (⟨none, 0, [], rfl, ownS_nil, G.pk [100000]⟩)
 refine gF D (G_skip (N_then (G_seq ?_)))
 obtain ⟨x, ae, hm⟩ := gx_bind hm
 obtain ⟨o, af, hm⟩ := gx_bind hm
 refine G_sub [(1, pB y 0), (7, .bool (!Q))] (by kernel_rfl) (G_dagL 7 [[], [0], [1], [], [3], [], []] [[], [], [], [], [], [], []] [[], [], [], [], [], [], []] [[], [], [], [], [], [4], [2]] [[], [], [], [], [], [], [2]] [[], [], [], [], [], [], []] (fun _ => []) (fun i => ([fun f v s => v = (pB y 0 : Value) ∧ s = [], fun f v s => v = (.slice c a.Memory.length b : Value) ∧ s = [], fun f v s => ∃ (g : Option Addr) (d : Nat), v = (.slice g x.length d : Value) ∧ ownS Gx.encI x g d s, fun f v s => v = (.agg #[.slice c a.Memory.length b, .slice m a.Copy.length k, .slice n a.Dirty.length l] : Value) ∧ s = [], fun f v s => ∃ (u : Option Addr) (q : Nat), v = (.slice u o.length q : Value) ∧ ownS Gx.encI o u q s, fun f v s => v = (iv (o.length : Int) : Value) ∧ s = [], fun f v s => v = ((atPath (f 2) []) : Value) ∧ s = []] : List ((Nat → Value) → Value → Seg → Prop)).getD i (fun _ _ _ => False)) (fun j f v => ∃ s, (fun i => ([fun f v s => v = (pB y 0 : Value) ∧ s = [], fun f v s => v = (.slice c a.Memory.length b : Value) ∧ s = [], fun f v s => ∃ (g : Option Addr) (d : Nat), v = (.slice g x.length d : Value) ∧ ownS Gx.encI x g d s, fun f v s => v = (.agg #[.slice c a.Memory.length b, .slice m a.Copy.length k, .slice n a.Dirty.length l] : Value) ∧ s = [], fun f v s => ∃ (u : Option Addr) (q : Nat), v = (.slice u o.length q : Value) ∧ ownS Gx.encI o u q s, fun f v s => v = (iv (o.length : Int) : Value) ∧ s = [], fun f v s => v = ((atPath (f 2) []) : Value) ∧ s = []] : List ((Nat → Value) → Value → Seg → Prop)).getD i (fun _ _ _ => False)) j f v s) [] [2, 4, 5, 6] [2, 4] (fun _ _ _ s h => ⟨s, h⟩) (by kernel_rfl) (by kernel_rfl) (G.preNil 7) (by kernel_rfl) (by kernel_rfl) (by kernel_rfl) (by kernel_rfl) (allOb_cons ?_ (allOb_cons ?_ (allOb_cons ?_ (allOb_cons ?_ (allOb_cons ?_ (allOb_cons ?_ (allOb_cons ?_ allOb_nil))))))) ?_)
 ·intro t z
  intro R ai Y
  exact wR 1 [(8, pB y 0)] ai (W_nil (oE (pB y 0) [] ⟨by kernel_rfl, rfl⟩ Y))
 ·intro t z
  intro v0_ hb0_
  obtain ⟨rfl, _⟩ := hb0_
  intro R aj H
  exact wV (.slice c a.Memory.length b) aj (eL false 1 0 (H.blk 0 rfl)) (W_nil (oE (.slice c a.Memory.length b) [] ⟨by kernel_rfl, rfl⟩ H))
 ·intro t z
  intro v1_ hb1_
  obtain ⟨rfl, _⟩ := hb1_
  intro R ak I
  refine wC 62 #[.slice c a.Memory.length b] ((c_i_copyInts ak a.Memory c b (C.mem0 I) ae).mono ?_)
  rintro e_ ap ⟨g, d, ag, rfl, E, W⟩
  refine ⟨_, rfl, ?_⟩
  exact W_nil (oE (.slice g x.length d) ag ⟨g, d, rfl, E⟩ (Mem.callMid I W))
 ·intro t z
  intro R al J
  exact wV (.agg #[.slice c a.Memory.length b, .slice m a.Copy.length k, .slice n a.Dirty.length l]) al (eL true 3 0 (J.blk 0 rfl)) (W_nil (oE (.agg #[.slice c a.Memory.length b, .slice m a.Copy.length k, .slice n a.Dirty.length l]) [] ⟨by kernel_rfl, rfl⟩ J))
 ·intro t z
  intro v3_ hb3_
  obtain ⟨rfl, _⟩ := hb3_
  intro R am B
  refine wC 66 #[.agg #[.slice c a.Memory.length b, .slice m a.Copy.length k, .slice n a.Dirty.length l]] ((c_i_dirtyWords am a c b (C.mem0 B) m k (L.mem0 B) n l (N.mem0 B) af).mono ?_)
  rintro e_ aq ⟨u, q, ah, rfl, O, X⟩
  refine ⟨_, rfl, ?_⟩
  exact W_nil (oE (.slice u o.length q) ah ⟨u, q, rfl, O⟩ (Mem.callMid B X))
 ·intro t z
  intro v4_ hb4_
  obtain ⟨_, u, q, rfl, _⟩ := hb4_
  intro R an Z
  exact wR 1 [(13, iv (o.length : Int))] an (W_nil (oE (iv (o.length : Int)) [] ⟨by kernel_rfl, rfl⟩ Z))
 ·intro t z
  intro v2_ hb2_
  obtain ⟨_, g, d, rfl, _⟩ := hb2_
  intro R ao aa
  exact wR 1 [(2, .slice g x.length d)] ao (W_nil (oE (.slice g x.length d) [] ⟨by kernel_rfl, rfl⟩ aa))
 intro t z
 intro v2_ hb2_
 obtain ⟨g, d, rfl, E⟩ := hb2_
 intro v4_ hb4_
 obtain ⟨u, q, rfl, O⟩ := hb4_
 intro v5_ hb5_
 obtain ⟨rfl, _⟩ := hb5_
 intro v6_ hb6_
 obtain ⟨hv6_, _⟩ := hb6_
 obtain rfl : v6_ = (.slice g x.length d : Value) := hv6_.trans (by kernel_rfl)
 intro U ab
 have ac : Mem [] w U [[(y, .cells ⟨[.slice c a.Memory.length b, .slice m a.Copy.length k, .slice n a.Dirty.length l]⟩ 28 (0, 0))], (t 2), (t 4)] := ab
 refine wR 2 [(2, .slice g x.length d), (3, iv (o.length : Int)), (4, .bool true)] U (W_nil (N_then (G_ret ?_)))
 obtain rfl := Option.some.inj hm
 exact N_ret [.slice g x.length d, iv (o.length : Int), .bool true] (rC (rC (rC RVs_nil))) (⟨g, d, (t 2), rfl, E, ac.pk [1]⟩)
theorem c_l_FnExactFinishCopy (w : World) (d : Copying) (y : Option Addr) (t : Nat) (ai : rdS Gx.encI w d.Memory y t) (z : Option Addr) (u : Nat) (aj : rdS Gx.encI w d.Copy z u) (A : Option Addr) (x : Nat) (ak : rdS Gx.encB w d.Dirty A x) {r : Bool} (hm : M.l_FnExactFinishCopy d = some r) :
  Calls Try.prog 6 #[.agg #[.slice y d.Memory.length t, .slice z d.Copy.length u, .slice A d.Dirty.length x]] w fun e w' => e = .returned (.bool r) ∧ Mem [] w w' [] := by
 unfold M.l_FnExactFinishCopy at hm
 refine cE Try.func6 ?_
 have M0 := Mem.refl [] w
 refine G_seq (G_region (wN (.cells ⟨[.slice y d.Memory.length t, .slice z d.Copy.length u, .slice A d.Dirty.length x]⟩ 25 (0, 0)) M0 ?_))
 intro n am ae
 refine wR 1 [(1, pB n 0)] am (W_nil (N_then (G_seq (G_region (wR 1 [(1, pB n 0), (3, iv 1048576)] am (W_nil (N_then (G_seq (G_region (wV (.agg #[.slice y d.Memory.length t, .slice z d.Copy.length u, .slice A d.Dirty.length x]) am (eL true 3 0 (ae.blk 0 rfl)) (wR 1 [(1, pB n 0), (3, iv 1048576), (17, .agg #[.slice y d.Memory.length t, .slice z d.Copy.length u, .slice A d.Dirty.length x]), (18, iv 1048576)] am ?_)))))))))))
 obtain ⟨c0, d3, hm⟩ := gx_bind hm
 refine wC 13 #[.agg #[.slice y d.Memory.length t, .slice z d.Copy.length u, .slice A d.Dirty.length x], iv 1048576] ((c_l_szCopying am d y t (ai.mem0 ae) z u (aj.mem0 ae) A x (ak.mem0 ae) 1048576 d3).mono ?_)
 rintro e_ an ⟨rfl, c2⟩
 have Z := ae.call0 c2
 refine ⟨_, rfl, ?_⟩
 refine wR 1 [(1, pB n 0), (3, iv c0)] an (W_nil (N_then (G_seq (G_seq (G_region (wR 2 [(1, pB n 0), (21, .bool (decide (c0 < 0)))] an (W_nil (N_then ?_))))))))
 rcases gx_bif hm with ⟨bm, hm⟩ | ⟨bm, hm⟩
 ·refine gT bm (G_seq (G_region (wR 1 [(2, .bool true)] an (W_nil (N_then (G_ret (N_then_ret ?_)))))))
  obtain rfl := Option.some.inj hm
  exact N_ret [.bool true] (rC RVs_nil) (⟨rfl, Z.pk []⟩)
 refine gF bm (G_skip (N_then (G_seq (G_region (wV (.agg #[.slice y d.Memory.length t, .slice z d.Copy.length u, .slice A d.Dirty.length x]) an (eL true 3 0 (Z.blk 0 rfl)) ?_)))))
 obtain ⟨a4, d4, hm⟩ := gx_bind hm
 refine wC 15 #[.agg #[.slice y d.Memory.length t, .slice z d.Copy.length u, .slice A d.Dirty.length x]] ((c_l_toCopying an d y t (ai.mem0 Z) z u (aj.mem0 Z) A x (ak.mem0 Z) d4).mono ?_)
 rintro e_ eu ⟨cu, cm, e6, cv, cn, e7, cw, co, e8, rfl, dt, du, dv, c3⟩
 have ar := Z.call c3
 refine ⟨_, rfl, ?_⟩
 obtain ⟨b, d5, hm⟩ := gx_bind hm
 refine wC 28 #[.agg #[.slice cu a4.Memory.length cm, .slice cv a4.Copy.length cn, .slice cw a4.Dirty.length co]] ((c_s_FinishCopy eu a4 cu cm (dt.rd ar 1 (by kernel_rfl)) cv cn (du.rd ar 2 (by kernel_rfl)) cw co (dv.rd ar 3 (by kernel_rfl)) d5).mono ?_)
 rintro e_ ce ⟨q, o, al, rfl, b6, c4⟩
 have af := ar.call c4
 refine ⟨_, rfl, ?_⟩
 refine wR 7 [(1, pB n 0), (4, .slice q b.1.length o), (5, iv b.2.1), (6, .bool b.2.2)] ce (W_nil (N_then (G_seq (G_region (wV (.agg #[.slice y d.Memory.length t, .slice z d.Copy.length u, .slice A d.Dirty.length x]) ce (eL true 3 0 (af.blk 0 rfl)) ?_)))))
 obtain ⟨l, d6, hm⟩ := gx_bind hm
 refine wC 15 #[.agg #[.slice y d.Memory.length t, .slice z d.Copy.length u, .slice A d.Dirty.length x]] ((c_l_toCopying ce d y t (ai.mem0 af) z u (aj.mem0 af) A x (ak.mem0 af) d6).mono ?_)
 rintro e_ fd ⟨E, B, a8, F, C, a9, G, D, ba, rfl, b7, b8, b9, c5⟩
 have di := af.call c5
 refine ⟨_, rfl, ?_⟩
 refine wN (.cells ⟨[.slice none 0 0, .slice none 0 0, .slice none 0 0]⟩ 28 (0, 0)) di ?_
 intro I fe dj
 refine wS true 3 0 (.agg #[.slice E l.Memory.length B, .slice F l.Copy.length C, .slice G l.Dirty.length D]) 8 [.slice E l.Memory.length B, .slice F l.Copy.length C, .slice G l.Dirty.length D] dj rfl ?_
 intro c1 ag
 refine W_nil (N_then (G_seq (G_region (wV (.agg #[.slice E l.Memory.length B, .slice F l.Copy.length C, .slice G l.Dirty.length D]) c1 (eL true 3 0 (ag.blk 8 rfl)) ?_))))
 obtain ⟨c, d7, hm⟩ := gx_bind hm
 refine wC 29 #[.agg #[.slice E l.Memory.length B, .slice F l.Copy.length C, .slice G l.Dirty.length D]] ((c_i_FinishCopy c1 l E B (b7.rd ag 5 (by kernel_rfl)) F C (b8.rd ag 6 (by kernel_rfl)) G D (b9.rd ag 7 (by kernel_rfl)) d7).mono ?_)
 rintro e_ cf ⟨k, g, aa, rfl, ca, c6⟩
 have be := ag.call c6
 refine ⟨_, rfl, ?_⟩
 refine wR 7 [(1, pB n 0), (4, .slice q b.1.length o), (5, iv b.2.1), (6, .bool b.2.2), (7, pB I 0), (8, .slice k c.1.length g), (9, iv c.2.1), (10, .bool c.2.2)] cf (W_nil (N_then (G_seq (G_seq ?_))))
 obtain ⟨ct, dw, dq⟩ := gx_bind hm
 refine G_meet (fun a w' => Mem [] w w' [[(n, .cells ⟨[.slice y d.Memory.length t, .slice z d.Copy.length u, .slice A d.Dirty.length x]⟩ 25 (0, 0))], al, a8, a9, ba, [(I, .cells ⟨[.slice E l.Memory.length B, .slice F l.Copy.length C, .slice G l.Dirty.length D]⟩ 28 (0, 0))], aa] ∧ Sat Try.f6.ntmps [(1, pB n 0), (4, .slice q b.1.length o), (5, iv b.2.1), (6, .bool b.2.2), (7, pB I 0), (8, .slice k c.1.length g), (9, iv c.2.1), (10, .bool c.2.2), (50, .bool ct)] a) ?_ ?_
 ·have hm := dw
  refine G_region (wR 2 [(1, pB n 0), (4, .slice q b.1.length o), (5, iv b.2.1), (6, .bool b.2.2), (7, pB I 0), (8, .slice k c.1.length g), (9, iv c.2.1), (10, .bool c.2.2), (37, .slice k c.1.length g), (38, .slice q b.1.length o)] cf ?_)
  obtain ⟨el, d8, hm⟩ := gx_bind hm
  refine wC 21 #[.slice k c.1.length g, .slice q b.1.length o] ((c_l_eqIntS cf c.1 k g (ca.rd be 9 (by kernel_rfl)) b.1 q o (b6.rd be 4 (by kernel_rfl)) d8).mono ?_)
  rintro e_ ao ⟨rfl, c7⟩
  have bf := be.call0 c7
  refine ⟨_, rfl, ?_⟩
  refine wR 2 [(1, pB n 0), (4, .slice q b.1.length o), (5, iv b.2.1), (6, .bool b.2.2), (7, pB I 0), (8, .slice k c.1.length g), (9, iv c.2.1), (10, .bool c.2.2), (41, .bool (!el))] ao ?_
  rcases gx_bif hm with ⟨bn, hm⟩ | ⟨bn, hm⟩
  ·refine wK 41 true bn (wR 9 [(1, pB n 0), (4, .slice q b.1.length o), (5, iv b.2.1), (6, .bool b.2.2), (7, pB I 0), (8, .slice k c.1.length g), (9, iv c.2.1), (10, .bool c.2.2), (50, .bool true)] ao (W_nil ?_))
   obtain rfl := Option.some.inj hm
   exact N_meet fun a ha => ⟨bf.pk [0, 4, 5, 6, 7, 8, 9], ha.s⟩
  refine wK 41 false bn (wR 5 [(1, pB n 0), (4, .slice q b.1.length o), (5, iv b.2.1), (6, .bool b.2.2), (7, pB I 0), (8, .slice k c.1.length g), (9, iv c.2.1), (10, .bool c.2.2), (46, .bool (c.2.1 != b.2.1))] ao ?_)
  rcases gx_bif hm with ⟨bo, hm⟩ | ⟨bo, hm⟩
  ·refine wK 46 true bo (wR 4 [(1, pB n 0), (4, .slice q b.1.length o), (5, iv b.2.1), (6, .bool b.2.2), (7, pB I 0), (8, .slice k c.1.length g), (9, iv c.2.1), (10, .bool c.2.2), (50, .bool true)] ao (W_nil ?_))
   obtain rfl := Option.some.inj hm
   exact N_meet fun a ha => ⟨bf.pk [0, 4, 5, 6, 7, 8, 9], ha.s⟩
  refine wK 46 false bo (wR 4 [(1, pB n 0), (4, .slice q b.1.length o), (5, iv b.2.1), (6, .bool b.2.2), (7, pB I 0), (8, .slice k c.1.length g), (9, iv c.2.1), (10, .bool c.2.2), (50, .bool (!(c.2.2 == b.2.2)))] ao (W_nil ?_))
  obtain rfl := Option.some.inj hm
  exact N_meet fun a ha => ⟨bf.pk [0, 4, 5, 6, 7, 8, 9], ha.s⟩
 intro e0 ev ⟨ci, dm⟩
 refine N_use dm ?_
 have hm := dq
 refine N_then ?_
 rcases gx_bif hm with ⟨bp, hm⟩ | ⟨bp, hm⟩
 ·refine gT bp (G_seq (G_region (wR 1 [(2, .bool false)] ev (W_nil (N_then (G_ret (N_then_ret ?_)))))))
  obtain rfl := Option.some.inj hm
  exact N_ret [.bool false] (rC RVs_nil) (⟨rfl, ci.pk []⟩)
 refine gF bp (G_skip (N_then (G_seq (G_seq ?_))))
 obtain ⟨H, d9, hm⟩ := gx_bind hm
 refine G_sub [(1, pB n 0), (4, .slice q b.1.length o), (5, iv b.2.1), (6, .bool b.2.2), (7, pB I 0), (8, .slice k c.1.length g), (9, iv c.2.1), (10, .bool c.2.2), (50, .bool ct)] (by kernel_rfl) (G_dagL 3 [[], [], [1]] [[], [], []] [[], [], []] [[], [], []] [[], [], []] [[], [], []] (fun _ => []) (fun i => ([fun f v s => v = (.agg #[.slice E l.Memory.length B, .slice F l.Copy.length C, .slice G l.Dirty.length D] : Value) ∧ s = [], fun f v s => v = (.agg #[.slice y d.Memory.length t, .slice z d.Copy.length u, .slice A d.Dirty.length x] : Value) ∧ s = [], fun f v s => ∃ (O : Option Addr) (K : Nat) (S : Seg), ∃ (P : Option Addr) (L : Nat) (T : Seg), ∃ (Q : Option Addr) (N : Nat) (U : Seg), v = (.agg #[.slice O H.Memory.length K, .slice P H.Copy.length L, .slice Q H.Dirty.length N] : Value) ∧ s = (S ++ (T ++ U)) ∧ ownS Gx.encI H.Memory O K S ∧ ownS Gx.encI H.Copy P L T ∧ ownS Gx.encB H.Dirty Q N U] : List ((Nat → Value) → Value → Seg → Prop)).getD i (fun _ _ _ => False)) (fun j f v => ∃ s, (fun i => ([fun f v s => v = (.agg #[.slice E l.Memory.length B, .slice F l.Copy.length C, .slice G l.Dirty.length D] : Value) ∧ s = [], fun f v s => v = (.agg #[.slice y d.Memory.length t, .slice z d.Copy.length u, .slice A d.Dirty.length x] : Value) ∧ s = [], fun f v s => ∃ (O : Option Addr) (K : Nat) (S : Seg), ∃ (P : Option Addr) (L : Nat) (T : Seg), ∃ (Q : Option Addr) (N : Nat) (U : Seg), v = (.agg #[.slice O H.Memory.length K, .slice P H.Copy.length L, .slice Q H.Dirty.length N] : Value) ∧ s = (S ++ (T ++ U)) ∧ ownS Gx.encI H.Memory O K S ∧ ownS Gx.encI H.Copy P L T ∧ ownS Gx.encB H.Dirty Q N U] : List ((Nat → Value) → Value → Seg → Prop)).getD i (fun _ _ _ => False)) j f v s) [] [0, 2] [2] (fun _ _ _ s h => ⟨s, h⟩) (by kernel_rfl) (by kernel_rfl) (ci.preNil 3) (by kernel_rfl) (by kernel_rfl) (by kernel_rfl) (by kernel_rfl) (allOb_cons ?_ (allOb_cons ?_ (allOb_cons ?_ allOb_nil))) ?_)
 ·intro az bl
  intro R ew cj
  exact wV (.agg #[.slice E l.Memory.length B, .slice F l.Copy.length C, .slice G l.Dirty.length D]) ew (eL true 3 0 (cj.blk 5 rfl)) (W_nil (oE (.agg #[.slice E l.Memory.length B, .slice F l.Copy.length C, .slice G l.Dirty.length D]) [] ⟨by kernel_rfl, rfl⟩ cj))
 ·intro az bl
  intro R ex ck
  exact wV (.agg #[.slice y d.Memory.length t, .slice z d.Copy.length u, .slice A d.Dirty.length x]) ex (eL true 3 0 (ck.blk 0 rfl)) (W_nil (oE (.agg #[.slice y d.Memory.length t, .slice z d.Copy.length u, .slice A d.Dirty.length x]) [] ⟨by kernel_rfl, rfl⟩ ck))
 ·intro az bl
  intro v1_ hb1_
  obtain ⟨rfl, _⟩ := hb1_
  intro R ey au
  refine wC 15 #[.agg #[.slice y d.Memory.length t, .slice z d.Copy.length u, .slice A d.Dirty.length x]] ((c_l_toCopying ey d y t (ai.mem0 au) z u (aj.mem0 au) A x (ak.mem0 au) d9).mono ?_)
  rintro e_ ff ⟨O, K, S, P, L, T, Q, N, U, rfl, cb, cc, cd, c8⟩
  refine ⟨_, rfl, ?_⟩
  exact W_nil (oE (.agg #[.slice O H.Memory.length K, .slice P H.Copy.length L, .slice Q H.Dirty.length N]) (S ++ (T ++ U)) ⟨O, K, S, P, L, T, Q, N, U, rfl, rfl, cb, cc, cd⟩ (Mem.callMid au (c8.permF (by simp))))
 intro az bl
 intro v0_ hb0_
 obtain ⟨rfl, _⟩ := hb0_
 intro v2_ hb2_
 obtain ⟨O, K, S, P, L, T, Q, N, U, rfl, hs2_, cb, cc, cd⟩ := hb2_
 intro cg dk
 have V : Mem [] w cg [[(n, .cells ⟨[.slice y d.Memory.length t, .slice z d.Copy.length u, .slice A d.Dirty.length x]⟩ 25 (0, 0))], al, a8, a9, ba, [(I, .cells ⟨[.slice E l.Memory.length B, .slice F l.Copy.length C, .slice G l.Dirty.length D]⟩ 28 (0, 0))], aa, (az 2)] := dk
 rw [hs2_] at V
 replace V : Mem [] w cg [[(n, .cells ⟨[.slice y d.Memory.length t, .slice z d.Copy.length u, .slice A d.Dirty.length x]⟩ 25 (0, 0))], al, a8, a9, ba, [(I, .cells ⟨[.slice E l.Memory.length B, .slice F l.Copy.length C, .slice G l.Dirty.length D]⟩ 28 (0, 0))], aa, S, T, U] := V.permF (by simp)
 obtain ⟨em, ea, hm⟩ := gx_bind hm
 refine wC 17 #[.agg #[.slice E l.Memory.length B, .slice F l.Copy.length C, .slice G l.Dirty.length D], .agg #[.slice O H.Memory.length K, .slice P H.Copy.length L, .slice Q H.Dirty.length N]] ((c_l_eqCopying cg l E B (b7.rd V 2 (by kernel_rfl)) F C (b8.rd V 3 (by kernel_rfl)) G D (b9.rd V 4 (by kernel_rfl)) H O K (cb.rd V 7 (by kernel_rfl)) P L (cc.rd V 8 (by kernel_rfl)) Q N (cd.rd V 9 (by kernel_rfl)) ea).mono ?_)
 rintro e_ ab ⟨rfl, c9⟩
 have ah := V.call0 c9
 refine ⟨_, rfl, ?_⟩
 refine wR 1 [(1, pB n 0), (4, .slice q b.1.length o), (5, iv b.2.1), (6, .bool b.2.2), (7, pB I 0), (8, .slice k c.1.length g), (9, iv c.2.1), (10, .bool c.2.2), (55, .bool (!em))] ab (W_nil (N_then ?_))
 rcases gx_bif hm with ⟨bq, hm⟩ | ⟨bq, hm⟩
 ·refine gT bq (G_seq (G_region (wR 1 [(2, .bool false)] ab (W_nil (N_then (G_ret (N_then_ret ?_)))))))
  obtain rfl := Option.some.inj hm
  exact N_ret [.bool false] (rC RVs_nil) (⟨rfl, ah.pk []⟩)
 refine gF bq (G_skip (N_then (G_seq (G_region (wR 1 [(1, pB n 0), (4, .slice q b.1.length o), (5, iv b.2.1), (6, .bool b.2.2), (7, pB I 0), (8, .slice k c.1.length g), (9, iv c.2.1), (10, .bool c.2.2), (11, iv 1)] ab (W_nil (N_then (G_seq (G_region (wV (.agg #[.slice E l.Memory.length B, .slice F l.Copy.length C, .slice G l.Dirty.length D]) ab (eL true 3 0 (ah.blk 5 rfl)) (wR 1 [(1, pB n 0), (4, .slice q b.1.length o), (5, iv b.2.1), (6, .bool b.2.2), (8, .slice k c.1.length g), (9, iv c.2.1), (10, .bool c.2.2), (11, iv 1), (56, .agg #[.slice E l.Memory.length B, .slice F l.Copy.length C, .slice G l.Dirty.length D]), (57, iv 1)] ab ?_)))))))))))
 obtain ⟨W, eb, hm⟩ := gx_bind hm
 refine wC 23 #[.agg #[.slice E l.Memory.length B, .slice F l.Copy.length C, .slice G l.Dirty.length D], iv 1] ((c_l_markCopying ab l E B a8 b7 F C a9 b8 G D ba b9 1 (ah.hasPick [2, 3, 4]) (ah.nodupPick [2, 3, 4] (by kernel_rfl)) eb).mono ?_)
 rintro e_ ac ⟨ep, er, es, rfl, e3, b3, e4, b4, e5, b5, da⟩
 have dl := ah.callF' [2, 3, 4] [0, 1, 5, 6, 7, 8, 9] (by kernel_rfl) da
 refine ⟨_, rfl, ?_⟩
 refine wX 56 (.agg #[.slice E l.Memory.length B, .slice F l.Copy.length C, .slice G l.Dirty.length D]) (.agg #[.slice E W.2.1.length B, .slice F W.2.2.1.length C, .slice G W.2.2.2.length D]) (by first | rw [b3, b4, b5] | rw [b3] | rw [b4] | rw [b5]) ?_
 have av : Mem [] w ac [[(n, .cells ⟨[.slice y d.Memory.length t, .slice z d.Copy.length u, .slice A d.Dirty.length x]⟩ 25 (0, 0))], al, [(I, .cells ⟨[.slice E W.2.1.length B, .slice F W.2.2.1.length C, .slice G W.2.2.2.length D]⟩ 28 (0, 0))], aa, S, T, U, ep, er, es] := by rw [b3, b4, b5]; exact dl
 refine wR 1 [(1, pB n 0), (4, .slice q b.1.length o), (5, iv b.2.1), (6, .bool b.2.2), (8, .slice k c.1.length g), (9, iv c.2.1), (10, .bool c.2.2), (11, iv W.1)] ac (W_nil (N_then (G_seq (G_seq ?_))))
 obtain ⟨ej, dx, dr⟩ := gx_bind hm
 refine G_meet (fun a w' => Mem [] w w' [[(n, .cells ⟨[.slice y d.Memory.length t, .slice z d.Copy.length u, .slice A d.Dirty.length x]⟩ 25 (0, 0))], al, aa] ∧ Sat Try.f6.ntmps [(1, pB n 0), (4, .slice q b.1.length o), (5, iv b.2.1), (6, .bool b.2.2), (8, .slice k c.1.length g), (76, .bool ej)] a) ?_ ?_
 ·have hm := dx
  refine G_region (wR 3 [(1, pB n 0), (4, .slice q b.1.length o), (5, iv b.2.1), (6, .bool b.2.2), (8, .slice k c.1.length g), (9, iv c.2.1), (10, .bool c.2.2), (61, .bool (decide (W.1 < 0)))] ac ?_)
  rcases gx_bif hm with ⟨br, hm⟩ | ⟨br, hm⟩
  ·refine wK 61 true br (wR 15 [(1, pB n 0), (4, .slice q b.1.length o), (5, iv b.2.1), (6, .bool b.2.2), (8, .slice k c.1.length g), (76, .bool true)] ac (W_nil ?_))
   obtain rfl := Option.some.inj hm
   exact N_meet fun a ha => ⟨av.pk [0, 1, 3], ha.s⟩
  refine wK 61 false br (wR 2 [(1, pB n 0), (4, .slice q b.1.length o), (5, iv b.2.1), (6, .bool b.2.2), (8, .slice k c.1.length g), (9, iv c.2.1), (10, .bool c.2.2), (61, .bool false), (62, .slice k c.1.length g), (63, .slice q b.1.length o)] ac ?_)
  obtain ⟨en, ec, hm⟩ := gx_bind hm
  refine wC 21 #[.slice k c.1.length g, .slice q b.1.length o] ((c_l_eqIntS ac c.1 k g (ca.rd av 3 (by kernel_rfl)) b.1 q o (b6.rd av 1 (by kernel_rfl)) ec).mono ?_)
  rintro e_ ap ⟨rfl, db⟩
  have bg := av.call0 db
  refine ⟨_, rfl, ?_⟩
  refine wR 3 [(1, pB n 0), (4, .slice q b.1.length o), (5, iv b.2.1), (6, .bool b.2.2), (8, .slice k c.1.length g), (9, iv c.2.1), (10, .bool c.2.2), (67, .bool (!en))] ap ?_
  rcases gx_bif hm with ⟨bs, hm⟩ | ⟨bs, hm⟩
  ·refine wK 67 true bs (wR 9 [(1, pB n 0), (4, .slice q b.1.length o), (5, iv b.2.1), (6, .bool b.2.2), (8, .slice k c.1.length g), (76, .bool true)] ap (W_nil ?_))
   obtain rfl := Option.some.inj hm
   exact N_meet fun a ha => ⟨bg.pk [0, 1, 3], ha.s⟩
  refine wK 67 false bs (wR 5 [(1, pB n 0), (4, .slice q b.1.length o), (5, iv b.2.1), (6, .bool b.2.2), (8, .slice k c.1.length g), (10, .bool c.2.2), (72, .bool (c.2.1 != b.2.1))] ap ?_)
  rcases gx_bif hm with ⟨bt, hm⟩ | ⟨bt, hm⟩
  ·refine wK 72 true bt (wR 4 [(1, pB n 0), (4, .slice q b.1.length o), (5, iv b.2.1), (6, .bool b.2.2), (8, .slice k c.1.length g), (76, .bool true)] ap (W_nil ?_))
   obtain rfl := Option.some.inj hm
   exact N_meet fun a ha => ⟨bg.pk [0, 1, 3], ha.s⟩
  refine wK 72 false bt (wR 4 [(1, pB n 0), (4, .slice q b.1.length o), (5, iv b.2.1), (6, .bool b.2.2), (8, .slice k c.1.length g), (76, .bool (!(c.2.2 == b.2.2)))] ap (W_nil ?_))
  obtain rfl := Option.some.inj hm
  exact N_meet fun a ha => ⟨bg.pk [0, 1, 3], ha.s⟩
 intro e1 bb ⟨aw, dn⟩
 refine N_use dn ?_
 have hm := dr
 refine N_then ?_
 rcases gx_bif hm with ⟨bu, hm⟩ | ⟨bu, hm⟩
 ·refine gT bu (G_seq (G_region (wR 1 [(2, .bool false)] bb (W_nil (N_then (G_ret (N_then_ret ?_)))))))
  obtain rfl := Option.some.inj hm
  exact N_ret [.bool false] (rC RVs_nil) (⟨rfl, aw.pk []⟩)
 refine gF bu (G_skip (N_then (G_seq (G_region (wR 1 [(1, pB n 0), (4, .slice q b.1.length o), (5, iv b.2.1), (6, .bool b.2.2), (8, .slice k c.1.length g), (12, iv 1)] bb (W_nil (N_then (G_seq (G_region (wR 2 [(1, pB n 0), (4, .slice q b.1.length o), (5, iv b.2.1), (6, .bool b.2.2), (8, .slice k c.1.length g), (12, iv 1), (77, .slice k c.1.length g), (78, iv 1)] bb ?_))))))))))
 obtain ⟨m, ed, hm⟩ := gx_bind hm
 refine wC 22 #[.slice k c.1.length g, iv 1] ((c_l_markIntS bb c.1 k g aa ca 1 (aw.hasPick [2]) (aw.nodupPick [2] (by kernel_rfl)) ed).mono ?_)
 rintro e_ bc ⟨et, rfl, cs, a0, dc⟩
 have cl := aw.callF' [2] [0, 1] (by kernel_rfl) dc
 refine ⟨_, rfl, ?_⟩
 refine wX 8 (.slice k c.1.length g) (.slice k m.2.length g) (by first | rw [a0] | rw [a0]) (wX 77 (.slice k c.1.length g) (.slice k m.2.length g) (by first | rw [a0] | rw [a0]) (wR 1 [(1, pB n 0), (4, .slice q b.1.length o), (5, iv b.2.1), (6, .bool b.2.2), (8, .slice k m.2.length g), (12, iv m.1)] bc (W_nil (N_then (G_seq (G_region (wR 1 [(1, pB n 0), (4, .slice q b.1.length o), (5, iv b.2.1), (6, .bool b.2.2), (8, .slice k m.2.length g), (12, iv m.1), (13, iv 1)] bc (W_nil (N_then (G_seq (G_region (wR 2 [(1, pB n 0), (4, .slice q b.1.length o), (5, iv b.2.1), (6, .bool b.2.2), (8, .slice k m.2.length g), (12, iv m.1), (13, iv 1), (80, .slice k m.2.length g), (81, iv 1)] bc ?_))))))))))))
 obtain ⟨a5, ee, hm⟩ := gx_bind hm
 refine wC 27 #[.slice k m.2.length g, iv 1] ((c_l_heldIntS bc m.2 k g (cs.rd cl 2 (by kernel_rfl)) 1 ee).mono ?_)
 rintro e_ Y ⟨rfl, dd⟩
 have X := cl.call0 dd
 refine ⟨_, rfl, ?_⟩
 refine wR 1 [(1, pB n 0), (4, .slice q b.1.length o), (5, iv b.2.1), (6, .bool b.2.2), (8, .slice k m.2.length g), (12, iv m.1), (13, iv a5)] Y (W_nil (N_then (G_seq (G_seq (G_region (wR 2 [(1, pB n 0), (4, .slice q b.1.length o), (5, iv b.2.1), (6, .bool b.2.2), (8, .slice k m.2.length g), (12, iv m.1), (13, iv a5), (84, .bool (decide (a5 < 0)))] Y (W_nil (N_then ?_))))))))
 rcases gx_bif hm with ⟨bv, hm⟩ | ⟨bv, hm⟩
 ·refine gT bv (G_seq (G_region (wR 1 [(2, .bool false)] Y (W_nil (N_then (G_ret (N_then_ret ?_)))))))
  obtain rfl := Option.some.inj hm
  exact N_ret [.bool false] (rC RVs_nil) (⟨rfl, X.pk []⟩)
 refine gF bv (G_skip (N_then (G_seq (G_seq (G_region (wR 3 [(1, pB n 0), (4, .slice q b.1.length o), (5, iv b.2.1), (6, .bool b.2.2), (8, .slice k m.2.length g), (12, iv m.1), (87, .bool (a5 != m.1))] Y (W_nil (N_then ?_))))))))
 rcases gx_bif hm with ⟨bw, hm⟩ | ⟨bw, hm⟩
 ·refine gT bw (G_seq (G_region (wR 1 [(2, .bool false)] Y (W_nil (N_then (G_ret (N_then_ret ?_)))))))
  obtain rfl := Option.some.inj hm
  exact N_ret [.bool false] (rC RVs_nil) (⟨rfl, X.pk []⟩)
 refine gF bw (G_skip (N_then (G_seq (G_region (wV (.agg #[.slice y d.Memory.length t, .slice z d.Copy.length u, .slice A d.Dirty.length x]) Y (eL true 3 0 (X.blk 0 rfl)) ?_)))))
 obtain ⟨a6, ef, hm⟩ := gx_bind hm
 refine wC 15 #[.agg #[.slice y d.Memory.length t, .slice z d.Copy.length u, .slice A d.Dirty.length x]] ((c_l_toCopying Y d y t (ai.mem0 X) z u (aj.mem0 X) A x (ak.mem0 X) ef).mono ?_)
 rintro e_ ez ⟨cx, cp, e9, cy, cq, fa, cz, cr, fb, rfl, dy, dz, d0, de⟩
 have ax := X.call de
 refine ⟨_, rfl, ?_⟩
 obtain ⟨J, eg, hm⟩ := gx_bind hm
 refine wC 29 #[.agg #[.slice cx a6.Memory.length cp, .slice cy a6.Copy.length cq, .slice cz a6.Dirty.length cr]] ((c_i_FinishCopy ez a6 cx cp (dy.rd ax 3 (by kernel_rfl)) cy cq (dz.rd ax 4 (by kernel_rfl)) cz cr (d0.rd ax 5 (by kernel_rfl)) eg).mono ?_)
 rintro e_ ch ⟨a3, ay, fc, rfl, d1, df⟩
 have bh := ax.call df
 refine ⟨_, rfl, ?_⟩
 refine wR 7 [(4, .slice q b.1.length o), (5, iv b.2.1), (6, .bool b.2.2), (8, .slice k m.2.length g), (12, iv m.1), (14, .slice a3 J.1.length ay), (15, iv J.2.1), (16, .bool J.2.2)] ch (W_nil (N_then (G_seq (G_seq ?_))))
 obtain ⟨ek, d2, ds⟩ := gx_bind hm
 refine G_meet (fun a w' => Mem [] w w' [et] ∧ Sat Try.f6.ntmps [(8, .slice k m.2.length g), (12, iv m.1), (108, .bool ek)] a) ?_ ?_
 ·have hm := d2
  refine G_region (wR 2 [(5, iv b.2.1), (6, .bool b.2.2), (8, .slice k m.2.length g), (12, iv m.1), (15, iv J.2.1), (16, .bool J.2.2), (95, .slice a3 J.1.length ay), (96, .slice q b.1.length o)] ch ?_)
  obtain ⟨eo, eh, hm⟩ := gx_bind hm
  refine wC 21 #[.slice a3 J.1.length ay, .slice q b.1.length o] ((c_l_eqIntS ch J.1 a3 ay (d1.rd bh 6 (by kernel_rfl)) b.1 q o (b6.rd bh 1 (by kernel_rfl)) eh).mono ?_)
  rintro e_ aq ⟨rfl, dg⟩
  have bi := bh.call0 dg
  refine ⟨_, rfl, ?_⟩
  refine wR 2 [(5, iv b.2.1), (6, .bool b.2.2), (8, .slice k m.2.length g), (12, iv m.1), (15, iv J.2.1), (16, .bool J.2.2), (99, .bool (!eo))] aq ?_
  rcases gx_bif hm with ⟨bx, hm⟩ | ⟨bx, hm⟩
  ·refine wK 99 true bx (wR 9 [(8, .slice k m.2.length g), (12, iv m.1), (108, .bool true)] aq (W_nil ?_))
   obtain rfl := Option.some.inj hm
   exact N_meet fun a ha => ⟨bi.pk [2], ha.s⟩
  refine wK 99 false bx (wR 5 [(6, .bool b.2.2), (8, .slice k m.2.length g), (12, iv m.1), (16, .bool J.2.2), (104, .bool (J.2.1 != b.2.1))] aq ?_)
  rcases gx_bif hm with ⟨bz, hm⟩ | ⟨bz, hm⟩
  ·refine wK 104 true bz (wR 4 [(8, .slice k m.2.length g), (12, iv m.1), (108, .bool true)] aq (W_nil ?_))
   obtain rfl := Option.some.inj hm
   exact N_meet fun a ha => ⟨bi.pk [2], ha.s⟩
  refine wK 104 false bz (wR 4 [(8, .slice k m.2.length g), (12, iv m.1), (108, .bool (!(J.2.2 == b.2.2)))] aq (W_nil ?_))
  obtain rfl := Option.some.inj hm
  exact N_meet fun a ha => ⟨bi.pk [2], ha.s⟩
 intro e2 bd ⟨bj, dp⟩
 refine N_use dp ?_
 have hm := ds
 refine N_then ?_
 rcases gx_bif hm with ⟨b0, hm⟩ | ⟨b0, hm⟩
 ·refine gT b0 (G_seq (G_region (wR 1 [(2, .bool false)] bd (W_nil (N_then (G_ret (N_then_ret ?_)))))))
  obtain rfl := Option.some.inj hm
  exact N_ret [.bool false] (rC RVs_nil) (⟨rfl, bj.pk []⟩)
 refine gF b0 (G_skip (N_then (G_seq (G_region (wR 1 [(8, .slice k m.2.length g), (12, iv m.1), (13, iv 1)] bd (W_nil (N_then (G_seq (G_region (wR 2 [(12, iv m.1), (13, iv 1), (109, .slice k m.2.length g), (110, iv 1)] bd ?_))))))))))
 obtain ⟨a7, ei, hm⟩ := gx_bind hm
 refine wC 27 #[.slice k m.2.length g, iv 1] ((c_l_heldIntS bd m.2 k g (cs.rd bj 0 (by kernel_rfl)) 1 ei).mono ?_)
 rintro e_ ad ⟨rfl, dh⟩
 have bk := bj.call0 dh
 refine ⟨_, rfl, ?_⟩
 refine wR 1 [(12, iv m.1), (13, iv a7)] ad (W_nil (N_then (G_seq (G_seq (G_region (wR 2 [(12, iv m.1), (13, iv a7), (113, .bool (decide (a7 < 0)))] ad (W_nil (N_then ?_))))))))
 rcases gx_bif hm with ⟨b1, hm⟩ | ⟨b1, hm⟩
 ·refine gT b1 (G_seq (G_region (wR 1 [(2, .bool false)] ad (W_nil (N_then (G_ret (N_then_ret ?_)))))))
  obtain rfl := Option.some.inj hm
  exact N_ret [.bool false] (rC RVs_nil) (⟨rfl, bk.pk []⟩)
 refine gF b1 (G_skip (N_then (G_seq (G_seq (G_region (wR 3 [(116, .bool (a7 != m.1))] ad (W_nil (N_then ?_))))))))
 rcases gx_bif hm with ⟨b2, hm⟩ | ⟨b2, hm⟩
 ·refine gT b2 (G_seq (G_region (wR 1 [(2, .bool false)] ad (W_nil (N_then (G_ret (N_then_ret ?_)))))))
  obtain rfl := Option.some.inj hm
  exact N_ret [.bool false] (rC RVs_nil) (⟨rfl, bk.pk []⟩)
 refine gF b2 (G_skip (N_then (G_seq (G_region (wR 1 [(2, .bool true)] ad (W_nil (N_then (G_ret ?_))))))))
 obtain rfl := Option.some.inj hm
 exact N_ret [.bool true] (rC RVs_nil) (⟨rfl, bk.pk []⟩)
theorem c_l_toStore (w : World) (a : Store) {r : Store} (hm : M.l_toStore a = some r) :
  Calls Try.prog 31 #[.agg #[iv a.Word, iv a.Value]] w fun e w' => e = .returned (.agg #[iv r.Word, iv r.Value]) ∧ Mem [] w w' [] := by
 unfold M.l_toStore at hm
 refine cE Try.func31 ?_
 have M0 := Mem.refl [] w
 refine G_seq (G_region (wN (.cells ⟨[iv a.Word, iv a.Value]⟩ 44 (0, 0)) M0 ?_))
 intro f x q
 refine wN (.cells ⟨[iv 0, iv 0]⟩ 46 (0, 0)) q ?_
 intro c y t
 refine W_nil (N_then (G_seq (G_region (wN (.cells ⟨[iv 0, iv 0]⟩ 46 (0, 0)) t ?_))))
 intro d h j
 refine W_nil (N_then (G_seq (G_region (wR 1 [(1, pB f 0), (2, pB c 0), (3, pB d 0), (4, pB f 0)] h (wV (iv a.Word) h (eL false 1 0 (j.blk 0 rfl)) (wR 1 [(1, pB f 0), (2, pB c 0), (3, pB d 0), (5, iv a.Word), (6, pB d 0)] h (wS false 1 0 (iv a.Word) 2 [iv a.Word, iv 0] j rfl ?_)))))))
 intro i l
 refine W_nil (N_then (G_seq (G_region (wR 1 [(2, pB c 0), (3, pB d 0), (7, pB f 1)] i (wV (iv a.Value) i (eL false 1 1 (l.blk 0 rfl)) (wR 1 [(2, pB c 0), (3, pB d 0), (8, iv a.Value), (9, pB d 1)] i (wS false 1 1 (iv a.Value) 2 [iv a.Word, iv a.Value] l rfl ?_)))))))
 intro u m
 refine W_nil (N_then (G_seq (G_region (wV (.agg #[iv a.Word, iv a.Value]) u (eL true 2 0 (m.blk 2 rfl)) (wS true 2 0 (.agg #[iv a.Word, iv a.Value]) 1 [iv a.Word, iv a.Value] m rfl ?_)))))
 intro z n
 refine W_nil (N_then (G_ret ?_))
 obtain rfl := Option.some.inj hm
 exact N_ret [.agg #[iv a.Word, iv a.Value]] (RVs_cons (RV_cell (g := true) (k := 2) (b := c) (off := 0) (cs := [iv a.Word, iv a.Value]) (e := 46) (fr := (0, 0)) (v := .agg #[iv a.Word, iv a.Value]) (n.blk 1 (b := c) (o := .cells ⟨[iv a.Word, iv a.Value]⟩ 46 (0, 0)) (by kernel_rfl)) (by kernel_rfl) (by kernel_rfl) (by kernel_rfl)) RVs_nil) (⟨rfl, n.pk []⟩)
theorem c_s_l19Store (w : World) (b : Copying) (i : Option Addr) (h : Nat) (K : rdS Gx.encI w b.Memory i h) (q : Option Addr) (m : Nat) (L : rdS Gx.encI w b.Copy q m) (t : Option Addr) (n : Nat) (N : rdS Gx.encB w b.Dirty t n) (c : Store) {r : Bool} (hm : M.s_l19Store b c = some r) :
  Calls Try.prog 68 #[.agg #[.slice i b.Memory.length h, .slice q b.Copy.length m, .slice t b.Dirty.length n], .agg #[iv c.Word, iv c.Value]] w fun e w' => e = .returned (.bool r) ∧ Mem [] w w' [] := by
 unfold M.s_l19Store at hm
 refine cE Try.func68 ?_
 have M0 := Mem.refl [] w
 refine G_seq (G_region (wN (.cells ⟨[.slice i b.Memory.length h, .slice q b.Copy.length m, .slice t b.Dirty.length n]⟩ 28 (0, 0)) M0 ?_))
 intro l O y
 refine wN (.cells ⟨[iv c.Word, iv c.Value]⟩ 46 (0, 0)) y ?_
 intro d f j
 refine wR 1 [(2, pB l 0), (3, pB d 0)] f (W_nil (N_then (G_seq ?_)))
 obtain ⟨u, D, C⟩ := gx_bind hm
 refine G_meet (fun a w' => Mem [] w w' [] ∧ Sat Try.f68.ntmps [(4, .bool u)] a) ?_ ?_
 ·have hm := D
  refine G_region (wR 1 [(2, pB l 0), (3, pB d 0), (5, pB d 0)] f (wV (iv c.Word) f (eL false 1 0 (j.blk 1 rfl)) (wR 1 [(3, pB d 0), (6, iv c.Word), (7, pB l 0)] f (wV (.slice i b.Memory.length h) f (eL false 1 0 (j.blk 0 rfl)) (wR 2 [(3, pB d 0), (6, iv c.Word), (10, iv (w64 ((b.Memory.length : Int) - 1)))] f ?_)))))
  obtain ⟨G, E, hm⟩ := gx_bind hm
  refine wC 73 #[iv c.Word, iv 0, iv (w64 ((b.Memory.length : Int) - 1))] ((c_s_l1In f c.Word 0 (w64 ((b.Memory.length : Int) - 1)) E).mono ?_)
  rintro e_ g ⟨rfl, v⟩
  have k := j.call0 v
  refine ⟨_, rfl, ?_⟩
  refine wR 1 [(3, pB d 0), (12, .bool G)] g ?_
  rcases gx_bif hm with ⟨o, hm⟩ | ⟨o, hm⟩
  ·refine wK 12 true o (wR 1 [(12, .bool true), (13, pB d 1)] g (wV (iv c.Value) g (eL false 1 1 (k.blk 1 rfl)) ?_))
   obtain ⟨H, F, hm⟩ := gx_bind hm
   refine wC 95 #[iv c.Value] ((c_s_l2Word16 g c.Value F).mono ?_)
   rintro e_ I ⟨rfl, x⟩
   have z := k.call0 x
   refine ⟨_, rfl, ?_⟩
   refine wR 2 [(4, .bool H)] I (W_nil ?_)
   obtain rfl := Option.some.inj hm
   exact N_meet fun a ha => ⟨z.pk [], ha.s⟩
  refine wK 12 false o (wR 5 [(4, .bool false)] g (W_nil ?_))
  obtain rfl := Option.some.inj hm
  exact N_meet fun a ha => ⟨k.pk [], ha.s⟩
 intro J P ⟨A, B⟩
 refine N_use B ?_
 have hm := C
 refine N_then (G_ret ?_)
 obtain rfl := Option.some.inj hm
 exact N_ret [.bool u] (rC RVs_nil) (⟨rfl, A.pk []⟩)
end Go.Proofs.Ytjbblcdajdpfkaa
