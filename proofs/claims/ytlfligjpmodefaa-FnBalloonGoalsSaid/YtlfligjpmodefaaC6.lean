/- The walks, printed by program: whenever the model gives r, the call returns r. Part 6. -/
import Derived.Test.YtlfligjpmodefaaM
import Derived.Test.YtlfligjpmodefaaGxZ
import Derived.Test.YtlfligjpmodefaaProg
import Derived.Test.YtlfligjpmodefaaSh
import Derived.Test.YtlfligjpmodefaaC5
set_option linter.unusedVariables false
set_option maxRecDepth 100000
set_option maxHeartbeats 4000000
namespace Go.Proofs.Ytlfligjpmodefaa
open Go.Gx
theorem c_s_l1Cur_balloons (w : World) (d : l1Cur) (t : Option Addr) (u : Nat) (O : rdS Gx.encU8 w d.code t u) (c : Nat) (y : List Int) (z : Option Addr) (A : Nat) (df : rdS Gx.encI w y z A) (hA : ∀ q ∈ List.flatten [[(c, .cells ⟨[.slice t d.code.length u, iv d.at_, .int .u64 d.seed]⟩ 78 (0, 0))]], w.heap[q.1]? = some q.2) (hN : (idsOf [[(c, .cells ⟨[.slice t d.code.length u, iv d.at_, .int .u64 d.seed]⟩ 78 (0, 0))]]).Nodup) (P : apartX (idsOf [[(c, .cells ⟨[.slice t d.code.length u, iv d.at_, .int .u64 d.seed]⟩ 78 (0, 0))]]) d.code t) (dg : apartX (idsOf [[(c, .cells ⟨[.slice t d.code.length u, iv d.at_, .int .u64 d.seed]⟩ 78 (0, 0))]]) y z) {r : (List Balloon) × Int × Int} (hm : M.s_l1Cur_balloons d y = some r) :
  Calls Try.prog 73 #[pB c 0, .slice z y.length A] w fun e w' => ∃ (dn : Option Addr) (c9 : Nat) (dv : Seg) (dw : Seg), e = .returned (.slice dn r.1.length c9) ∧ ownD deepBalloon r.1 dn c9 dv dw ∧ Mem (idsOf [[(c, .cells ⟨[.slice t d.code.length u, iv d.at_, .int .u64 d.seed]⟩ 78 (0, 0))]]) w w' [[(c, .cells ⟨[.slice t d.code.length u, iv r.2.1, .int .u64 r.2.2]⟩ 78 (0, 0))], dv, dw] := by
 unfold M.s_l1Cur_balloons at hm
 refine cE Try.func73 ?_
 have M0 := Mem.start' w [[(c, .cells ⟨[.slice t d.code.length u, iv d.at_, .int .u64 d.seed]⟩ 78 (0, 0))]] hA hN
 refine G_seq (G_region (wR 1 [(0, pB c 0), (1, .slice z y.length A)] w (W_nil (N_then (G_seq (G_region ?_))))))
 have ed : Mem (idsOf [[(c, .cells ⟨[.slice t d.code.length u, iv d.at_, .int .u64 d.seed]⟩ 78 (0, 0))]]) w w [[(c, .cells ⟨[.slice t d.code.length u, iv d.at_, .int .u64 d.seed]⟩ 78 (0, 0))]] := M0.pk [0]
 have ee : Mem (idsOf [[(c, .cells ⟨[.slice t d.code.length u, iv d.at_, .int .u64 d.seed]⟩ 78 (0, 0))]]) w w [[(c, .cells ⟨[.slice t d.code.length u, iv d.at_, .int .u64 d.seed]⟩ 78 (0, 0))], []] := ed.regroup (by simp)
 refine W_litD (D := deepBalloon) [] ([] : List Balloon) rfl 0 [] 50 ee (by kernel_rfl) (by kernel_rfl) (by kernel_rfl) (by kernel_rfl) (by kernel_rfl) ownI_nil ?_
 intro bt bo ho hv f4 ef
 refine wR 1 [(0, pB c 0), (1, .slice z y.length A), (5, .slice bt ([] : List Balloon).length bo)] hv (W_nil (N_then (G_seq (G_region (wL (E := Gx.encI) ([] : List Int) 0 [] 3 ef ?_)))))
 intro cs ce hp d1 f5 eg
 refine wR 1 [(0, pB c 0), (1, .slice z y.length A), (5, .slice bt ([] : List Balloon).length bo), (6, .slice cs ([] : List Int).length ce)] d1 (W_nil (N_then (G_seq (G_seq (G_region (wR 1 [(0, pB c 0), (1, .slice z y.length A), (5, .slice bt ([] : List Balloon).length bo), (6, .slice cs ([] : List Int).length ce), (7, iv 1)] d1 (W_nil (N_then ?_))))))))
 obtain ⟨k, hb, f2⟩ := gx_bind hm
 refine G_meet (fun a w' => ∃ (l : Option Addr), ∃ (n : Nat), ∃ (a8 : Seg), ∃ (aa : Seg), ownD deepBalloon k.1 l n a8 aa ∧ Mem (idsOf [[(c, .cells ⟨[.slice t d.code.length u, iv d.at_, .int .u64 d.seed]⟩ 78 (0, 0))]]) w w' [[(c, .cells ⟨[.slice t d.code.length u, iv k.2.1, .int .u64 k.2.2]⟩ 78 (0, 0))], a8, aa] ∧ Sat Try.f73.ntmps [(0, pB c 0), (5, .slice l k.1.length n)] a) ?_ ?_
 ·refine G_block (G_while (σ := List Balloon × List Int × Int × Int × Int) (ρ := List Balloon × Int × Int) (fun g a w' => ∃ (F : Option Addr), ∃ (C : Nat), ∃ (ab : Seg), ∃ (W : Seg), ∃ (ag : Option Addr), ∃ (ac : Nat), ∃ (bn : Seg), ownD deepBalloon g.1 F C ab W ∧ ownS Gx.encI g.2.1 ag ac bn ∧ Mem (idsOf [[(c, .cells ⟨[.slice t d.code.length u, iv d.at_, .int .u64 d.seed]⟩ 78 (0, 0))]]) w w' [[(c, .cells ⟨[.slice t d.code.length u, iv g.2.2.2.1, .int .u64 g.2.2.2.2]⟩ 78 (0, 0))], ab, W, bn] ∧ Sat Try.f73.ntmps [(0, pB c 0), (1, .slice z y.length A), (5, .slice F g.1.length C), (6, .slice ag g.2.1.length ac), (7, iv g.2.2.1)] a) hb (fun a ha => ⟨bt, bo, ho, [], cs, ce, hp, f4, f5, eg.pk [0, 2, 1, 3], ha.s⟩) ?_)
  clear hm
  intro g jp hm gv im cu ⟨F, C, ab, W, ag, ac, bn, cp, dh, ay, fi⟩
  refine G_use fi (G_seq (G_seq (G_region (wR 2 [(0, pB c 0), (1, .slice z y.length A), (5, .slice F g.1.length C), (6, .slice ag g.2.1.length ac), (7, iv g.2.2.1), (15, .bool (decide (g.2.2.1 ≤ 4)))] cu (W_nil (N_then ?_))))))
  rcases gx_bif hm with ⟨cf, hm⟩ | ⟨cf, hm⟩
  ·refine gT cf (G_skip (N_then (G_seq ?_)))
   obtain ⟨ao, f6, fz⟩ := gx_bind hm
   refine G_meet (fun a w' => ∃ (bi : Option Addr), ∃ (bc : Nat), ∃ (bw : Seg), ∃ (bx : Seg), ∃ (bj : Option Addr), ∃ (bd : Nat), ∃ (bz : Seg), ownD deepBalloon ao.1 bi bc bw bx ∧ ownS Gx.encI ao.2.1 bj bd bz ∧ Mem (idsOf [[(c, .cells ⟨[.slice t d.code.length u, iv d.at_, .int .u64 d.seed]⟩ 78 (0, 0))]]) w w' [[(c, .cells ⟨[.slice t d.code.length u, iv ao.2.2.1, .int .u64 ao.2.2.2]⟩ 78 (0, 0))], bw, bx, bz] ∧ Sat Try.f73.ntmps [(0, pB c 0), (1, .slice z y.length A), (5, .slice bi ao.1.length bc), (6, .slice bj ao.2.1.length bd), (7, iv g.2.2.1)] a) ?_ ?_
   ·have hm := f6
    refine G_block (G_seq (G_seq (G_region (wR 1 [(0, pB c 0), (1, .slice z y.length A), (5, .slice F g.1.length C), (6, .slice ag g.2.1.length ac), (7, iv g.2.2.1), (18, pB c 0)] cu ?_))))
    obtain ⟨du, gy, hm⟩ := gx_bind hm
    refine wC 89 #[pB c 0, iv 3] ((c_s_l1Cur_one cu (⟨d.code, g.2.2.2.1, g.2.2.2.2⟩ : l1Cur) t u (O.memX P ay) c 3 (ay.hasPick [0]) (ay.nodupPick [0] (by kernel_rfl)) (apartX.old O P ay [0]) gy).mono ?_)
    rintro e_ hw ⟨rfl, d4⟩
    have c1 := ay.callF' [0] [1, 2, 3] (by kernel_rfl) d4
    refine ⟨_, rfl, ?_⟩
    refine W_nil (N_then ?_)
    rcases gx_bif hm with ⟨cg, hm⟩ | ⟨cg, hm⟩
    ·refine gT cg (G_exit (N_then_exit (N_block_eq ?_)))
     obtain rfl := Option.some.inj hm
     exact N_meet fun a ha => ⟨F, C, ab, W, ag, ac, bn, cp, dh, c1.pk [3, 0, 1, 2], ha.s⟩
    refine gF cg (G_skip (N_then (G_seq (G_region (wR 2 [(0, pB c 0), (1, .slice z y.length A), (5, .slice F g.1.length C), (6, .slice ag g.2.1.length ac), (7, iv g.2.2.1), (20, iv g.2.2.1), (21, pB c 0)] hw (wL (E := Gx.encI) [0, 1, 2, 5, 16] 5 [iv 0, iv 1, iv 2, iv 5, iv 16] 3 c1 ?_))))))
    intro dp da ja hx dj au
    obtain ⟨Q, gz, hm⟩ := gx_bind hm
    refine wC 75 #[pB c 0, .slice dp [0, 1, 2, 5, 16].length da] ((c_s_l1Cur_among hx (⟨d.code, du.2.1, du.2.2⟩ : l1Cur) t u (O.memX P au) c [0, 1, 2, 5, 16] dp da (dj.rd au 4 (by kernel_rfl)) (au.hasPick [3]) (au.nodupPick [3] (by kernel_rfl)) (apartX.old O P au [3]) (apartX.own dj au 4 (by kernel_rfl) [3] (by kernel_rfl)) gz).mono ?_)
    rintro e_ hy ⟨rfl, d5⟩
    have eh := au.callF' [3] [0, 1, 2, 4] (by kernel_rfl) d5
    refine ⟨_, rfl, ?_⟩
    refine wR 1 [(0, pB c 0), (1, .slice z y.length A), (5, .slice F g.1.length C), (6, .slice ag g.2.1.length ac), (7, iv g.2.2.1), (24, .agg #[iv g.2.2.1, iv Q.1, .slice none 0 0])] hy (wN (.cells ⟨[iv 0, iv 0, .slice none 0 0]⟩ 50 (0, 0)) eh ?_)
    intro B jf ei
    refine wS true 3 0 (.agg #[iv g.2.2.1, iv Q.1, .slice none 0 0]) 5 [iv g.2.2.1, iv Q.1, .slice none 0 0] ei rfl ?_
    intro hz ej
    refine W_nil (N_then (G_seq (G_seq (G_region (wR 1 [(0, pB c 0), (1, .slice z y.length A), (5, .slice F g.1.length C), (6, .slice ag g.2.1.length ac), (7, iv g.2.2.1), (8, pB B 0), (9, iv 0)] hz (W_nil (N_then ?_)))))))
    obtain ⟨H, hc, f3⟩ := gx_bind hm
    refine G_meet (fun a w' => ∃ (a7 : Option Addr), ∃ (a5 : Nat), ∃ (aq : Seg), ∃ (ah : Option Addr), ∃ (ad : Nat), ∃ (al : Seg), ownS Gx.encI H.1 a7 a5 aq ∧ ownS Gx.encI H.2.2.2 ah ad al ∧ Mem (idsOf [[(c, .cells ⟨[.slice t d.code.length u, iv d.at_, .int .u64 d.seed]⟩ 78 (0, 0))]]) w w' [ab, W, [(c, .cells ⟨[.slice t d.code.length u, iv H.2.1, .int .u64 H.2.2.1]⟩ 78 (0, 0))], [(B, .cells ⟨[iv g.2.2.1, iv Q.1, .slice ah H.2.2.2.length ad]⟩ 50 (0, 0))], aq, al] ∧ Sat Try.f73.ntmps [(0, pB c 0), (1, .slice z y.length A), (5, .slice F g.1.length C), (6, .slice a7 H.1.length a5), (7, iv g.2.2.1), (8, pB B 0)] a) ?_ ?_
    ·refine G_block (G_while (σ := List Int × Int × Int × Int × List Int) (ρ := List Int × Int × Int × List Int) (fun o a w' => ∃ (J : Option Addr), ∃ (I : Nat), ∃ (a9 : Seg), ∃ (ap : Option Addr), ∃ (an : Nat), ∃ (ba : Seg), ownS Gx.encI o.1 J I a9 ∧ ownS Gx.encI o.2.2.2.2 ap an ba ∧ Mem (idsOf [[(c, .cells ⟨[.slice t d.code.length u, iv d.at_, .int .u64 d.seed]⟩ 78 (0, 0))]]) w w' [ab, W, [(c, .cells ⟨[.slice t d.code.length u, iv o.2.2.1, .int .u64 o.2.2.2.1]⟩ 78 (0, 0))], [(B, .cells ⟨[iv g.2.2.1, iv Q.1, .slice ap o.2.2.2.2.length an]⟩ 50 (0, 0))], a9, ba] ∧ Sat Try.f73.ntmps [(0, pB c 0), (1, .slice z y.length A), (5, .slice F g.1.length C), (6, .slice J o.1.length I), (7, iv g.2.2.1), (8, pB B 0), (9, iv o.2.1)] a) hc (fun a ha => ⟨ag, ac, bn, none, 0, [], dh, ownS_nil, ej.pk [0, 1, 4, 5, 2, 100000], ha.s⟩) ?_)
     clear hm
     intro o jq hm gw io ar ⟨J, I, a9, ap, an, ba, bs, cq, az, fj⟩
     refine G_use fj (G_seq (G_seq (G_region (wR 4 [(0, pB c 0), (1, .slice z y.length A), (5, .slice F g.1.length C), (6, .slice J o.1.length I), (7, iv g.2.2.1), (8, pB B 0), (9, iv o.2.1), (28, .bool (decide (o.2.1 < (y.length : Int))))] ar (W_nil (N_then ?_))))))
     rcases gx_bif hm with ⟨ch, hm⟩ | ⟨ch, hm⟩
     ·refine gT ch (G_skip (N_then (G_seq (G_block (G_seq ?_)))))
      obtain ⟨bg, gb, f0⟩ := gx_bind hm
      refine G_meet (fun a w' => Mem (idsOf [[(c, .cells ⟨[.slice t d.code.length u, iv d.at_, .int .u64 d.seed]⟩ 78 (0, 0))]]) w w' [ab, W, [(c, .cells ⟨[.slice t d.code.length u, iv bg.2.1, .int .u64 bg.2.2]⟩ 78 (0, 0))], [(B, .cells ⟨[iv g.2.2.1, iv Q.1, .slice ap o.2.2.2.2.length an]⟩ 50 (0, 0))], a9, ba] ∧ Sat Try.f73.ntmps [(0, pB c 0), (1, .slice z y.length A), (5, .slice F g.1.length C), (6, .slice J o.1.length I), (7, iv g.2.2.1), (8, pB B 0), (9, iv o.2.1), (45, .bool bg.1)] a) ?_ ?_
      ·have hm := gb
       refine G_region (wR 2 [(0, pB c 0), (1, .slice z y.length A), (5, .slice F g.1.length C), (6, .slice J o.1.length I), (7, iv g.2.2.1), (8, pB B 0), (9, iv o.2.1), (31, .slice z y.length A), (32, iv o.2.1)] ar ?_)
       obtain ⟨d3, dm, hm⟩ := gx_bind hm
       refine wV (elemP z (o.2.1.toNat * 1)) ar (eI (df.memX dg az) rfl dm) (wV (iv d3) ar (eE false 1 0 (o.2.1.toNat * 1) (df.memX dg az) dm) (wR 2 [(0, pB c 0), (1, .slice z y.length A), (5, .slice F g.1.length C), (6, .slice J o.1.length I), (7, iv g.2.2.1), (8, pB B 0), (9, iv o.2.1), (36, .bool (d3 == 0))] ar ?_))
       rcases gx_bif hm with ⟨ci, hm⟩ | ⟨ci, hm⟩
       ·refine wK 36 true ci (wR 2 [(0, pB c 0), (1, .slice z y.length A), (5, .slice F g.1.length C), (6, .slice J o.1.length I), (7, iv g.2.2.1), (8, pB B 0), (9, iv o.2.1), (36, .bool true), (37, .slice J o.1.length I), (38, iv o.2.1)] ar ?_)
        obtain ⟨hj, g0, hm⟩ := gx_bind hm
        refine wC 81 #[.slice J o.1.length I, iv o.2.1] ((c_s_l1Has ar o.1 J I (bs.rd az 4 (by kernel_rfl)) o.2.1 g0).mono ?_)
        rintro e_ b4 ⟨rfl, d6⟩
        have a0 := az.call0 d6
        refine ⟨_, rfl, ?_⟩
        refine wR 3 [(0, pB c 0), (1, .slice z y.length A), (5, .slice F g.1.length C), (6, .slice J o.1.length I), (7, iv g.2.2.1), (8, pB B 0), (9, iv o.2.1), (42, .bool (!hj))] b4 ?_
        rcases gx_bif hm with ⟨cj, hm⟩ | ⟨cj, hm⟩
        ·refine wK 42 true cj (wR 1 [(0, pB c 0), (1, .slice z y.length A), (5, .slice F g.1.length C), (6, .slice J o.1.length I), (7, iv g.2.2.1), (8, pB B 0), (9, iv o.2.1), (42, .bool true), (43, pB c 0)] b4 ?_)
         obtain ⟨hk, g1, hm⟩ := gx_bind hm
         refine wC 89 #[pB c 0, iv 3] ((c_s_l1Cur_one b4 (⟨d.code, o.2.2.1, o.2.2.2.1⟩ : l1Cur) t u (O.memX P a0) c 3 (a0.hasPick [2]) (a0.nodupPick [2] (by kernel_rfl)) (apartX.old O P a0 [2]) g1).mono ?_)
         rintro e_ h0 ⟨rfl, d7⟩
         have ek := a0.callF' [2] [0, 1, 3, 4, 5] (by kernel_rfl) d7
         refine ⟨_, rfl, ?_⟩
         refine wR 1 [(0, pB c 0), (1, .slice z y.length A), (5, .slice F g.1.length C), (6, .slice J o.1.length I), (7, iv g.2.2.1), (8, pB B 0), (9, iv o.2.1), (45, .bool hk.1)] h0 (W_nil ?_)
         obtain rfl := Option.some.inj hm
         exact N_meet fun a ha => ⟨ek.pk [0, 1, 5, 2, 3, 4], ha.s⟩
        refine wK 42 false cj (wR 3 [(0, pB c 0), (1, .slice z y.length A), (5, .slice F g.1.length C), (6, .slice J o.1.length I), (7, iv g.2.2.1), (8, pB B 0), (9, iv o.2.1), (45, .bool false)] b4 (W_nil ?_))
        obtain rfl := Option.some.inj hm
        exact N_meet fun a ha => ⟨a0.pk [0, 1, 2, 3, 4, 5], ha.s⟩
       refine wK 36 false ci (wR 9 [(0, pB c 0), (1, .slice z y.length A), (5, .slice F g.1.length C), (6, .slice J o.1.length I), (7, iv g.2.2.1), (8, pB B 0), (9, iv o.2.1), (45, .bool false)] ar (W_nil ?_))
       obtain rfl := Option.some.inj hm
       exact N_meet fun a ha => ⟨az.pk [0, 1, 2, 3, 4, 5], ha.s⟩
      intro ip cv ⟨b8, fk⟩
      refine N_use fk ?_
      have hm := f0
      refine N_then ?_
      obtain ⟨bh, gc, f1⟩ := gx_bind hm
      refine G_meet (fun a w' => ∃ (bk : Option Addr), ∃ (be : Nat), ∃ (b0 : Seg), ∃ (bu : Option Addr), ∃ (bp : Nat), ∃ (b1 : Seg), ownS Gx.encI bh.1 bk be b0 ∧ ownS Gx.encI bh.2 bu bp b1 ∧ Mem (idsOf [[(c, .cells ⟨[.slice t d.code.length u, iv d.at_, .int .u64 d.seed]⟩ 78 (0, 0))]]) w w' [ab, W, [(c, .cells ⟨[.slice t d.code.length u, iv bg.2.1, .int .u64 bg.2.2]⟩ 78 (0, 0))], [(B, .cells ⟨[iv g.2.2.1, iv Q.1, .slice bu bh.2.length bp]⟩ 50 (0, 0))], b0, b1] ∧ Sat Try.f73.ntmps [(0, pB c 0), (1, .slice z y.length A), (5, .slice F g.1.length C), (6, .slice bk bh.1.length be), (7, iv g.2.2.1), (8, pB B 0), (9, iv o.2.1)] a) ?_ ?_
      ·have hm := gc
       rcases gx_bif hm with ⟨ck, hm⟩ | ⟨ck, hm⟩
       ·refine gT ck (G_seq (G_region (wR 1 [(0, pB c 0), (1, .slice z y.length A), (5, .slice F g.1.length C), (6, .slice J o.1.length I), (7, iv g.2.2.1), (8, pB B 0), (9, iv o.2.1), (46, pB B 2)] cv (wV (.slice ap o.2.2.2.2.length an) cv (eL false 1 2 (b8.blk 3 rfl)) (wR 1 [(0, pB c 0), (1, .slice z y.length A), (5, .slice F g.1.length C), (6, .slice J o.1.length I), (7, iv g.2.2.1), (8, pB B 0), (9, iv o.2.1), (47, .slice ap o.2.2.2.2.length an), (48, iv o.2.1)] cv (wL (E := Gx.encI) [o.2.1] 1 [iv o.2.1] 3 b8 ?_))))))
        intro i7 iw jb jg gf c2
        obtain ⟨cd, fp, hm⟩ := gx_bind hm
        refine wA 8 [iv 0] 5 c2 cq (gf.rd c2 6 (by kernel_rfl)) fp ?_
        intro bv bq hq h1 gg el
        refine wR 1 [(0, pB c 0), (1, .slice z y.length A), (5, .slice F g.1.length C), (6, .slice J o.1.length I), (7, iv g.2.2.1), (8, pB B 0), (9, iv o.2.1), (50, .slice bv cd.length bq), (51, pB B 2)] h1 (wS false 1 2 (.slice bv cd.length bq) 3 [iv g.2.2.1, iv Q.1, .slice bv cd.length bq] el rfl ?_)
        intro h2 em
        refine W_nil (N_then (G_region (wR 2 [(0, pB c 0), (1, .slice z y.length A), (5, .slice F g.1.length C), (6, .slice J o.1.length I), (7, iv g.2.2.1), (8, pB B 0), (9, iv o.2.1), (52, .slice J o.1.length I), (53, iv o.2.1)] h2 (wL (E := Gx.encI) [o.2.1] 1 [iv o.2.1] 3 em ?_))))
        intro i8 ix jc jh gh c3
        obtain ⟨ff, fq, hm⟩ := gx_bind hm
        refine wA 8 [iv 0] 4 c3 bs (gh.rd c3 7 (by kernel_rfl)) fq ?_
        intro dq db hr h3 gi en
        refine wR 1 [(0, pB c 0), (1, .slice z y.length A), (5, .slice F g.1.length C), (6, .slice dq ff.length db), (7, iv g.2.2.1), (8, pB B 0), (9, iv o.2.1)] h3 (W_nil ?_)
        obtain rfl := Option.some.inj hm
        exact N_meet fun a ha => ⟨dq, db, hr, bv, bq, hq, gi, gg, en.pk [0, 1, 2, 3, 4, 5], ha.s⟩
       refine gF ck (G_skip ?_)
       obtain rfl := Option.some.inj hm
       exact N_meet fun a ha => ⟨J, I, a9, ap, an, ba, bs, cq, b8.pk [0, 1, 2, 3, 4, 5], ha.s⟩
      intro iq h4 ⟨bk, be, b0, bu, bp, b1, gd, ge, eo, fl⟩
      refine N_use fl ?_
      have hm := f1
      refine N_block (N_then (G_region (wR 3 [(0, pB c 0), (1, .slice z y.length A), (5, .slice F g.1.length C), (6, .slice bk bh.1.length be), (7, iv g.2.2.1), (8, pB B 0), (9, iv (w64 (o.2.1 + 1)))] h4 (W_nil ?_))))
      obtain rfl := Option.some.inj hm
      exact N_loop fun a ha => ⟨_, rfl, bk, be, b0, bu, bp, b1, gd, ge, eo.pk [0, 1, 2, 3, 4, 5], ha.s⟩
     refine gF ch (G_exit (N_then_exit (N_then_exit (N_block_eq ?_))))
     obtain rfl := Option.some.inj hm
     obtain rfl := gw _ rfl
     exact N_meet fun a ha => ⟨J, I, a9, ap, an, ba, bs, cq, az.pk [0, 1, 2, 3, 4, 5], ha.s⟩
    intro ir b5 ⟨a7, a5, aq, ah, ad, al, f9, ga, c4, fm⟩
    refine N_use fm ?_
    have hm := f3
    refine N_then (G_region (wR 1 [(0, pB c 0), (1, .slice z y.length A), (5, .slice F g.1.length C), (6, .slice a7 H.1.length a5), (7, iv g.2.2.1), (8, pB B 0), (56, .slice F g.1.length C)] b5 (wV (.agg #[iv g.2.2.1, iv Q.1, .slice ah H.2.2.2.length ad]) b5 (eL true 3 0 (c4.blk 3 rfl)) ?_)))
    have ep : Mem (idsOf [[(c, .cells ⟨[.slice t d.code.length u, iv d.at_, .int .u64 d.seed]⟩ 78 (0, 0))]]) w b5 [ab, W, [(c, .cells ⟨[.slice t d.code.length u, iv H.2.1, .int .u64 H.2.2.1]⟩ 78 (0, 0))], [(B, .cells ⟨[iv g.2.2.1, iv Q.1, .slice ah H.2.2.2.length ad]⟩ 50 (0, 0))], aq, al] := c4.pk [0, 1, 2, 3, 4, 5]
    have er : Mem (idsOf [[(c, .cells ⟨[.slice t d.code.length u, iv d.at_, .int .u64 d.seed]⟩ 78 (0, 0))]]) w b5 [ab, W, [(c, .cells ⟨[.slice t d.code.length u, iv H.2.1, .int .u64 H.2.2.1]⟩ 78 (0, 0))], [(B, .cells ⟨[iv g.2.2.1, iv Q.1, .slice ah H.2.2.2.length ad]⟩ 50 (0, 0))], aq, (al ++ [])] := ep.regroup (by simp)
    refine W_litD (D := deepBalloon) [((⟨g.2.2.1, Q.1, H.2.2.2⟩ : Balloon), plOf [(ah, ad)])] [(⟨g.2.2.1, Q.1, H.2.2.2⟩ : Balloon)] rfl 1 [iv g.2.2.1, iv Q.1, .slice ah H.2.2.2.length ad] 50 er (by kernel_rfl) (by kernel_rfl) (by kernel_rfl) (by kernel_rfl) (by kernel_rfl) (ownI_cons (i := ⟨Int, Gx.encI, _, _, _⟩) ga ownI_nil) ?_
    intro i9 fh dx ji gj c5
    obtain ⟨fg, fr, hm⟩ := gx_bind hm
    obtain ⟨il, hi, g2, fy⟩ := id gj
    refine W_appendD (D := deepBalloon) (us := il) (s2 := (al ++ [])) _ _ _ 40 [iv 0, iv 0, .slice none 0 0] 0 fh c5 cp (by kernel_rfl) (by kernel_rfl) (by kernel_rfl) rfl (by kernel_rfl) (by kernel_rfl) (by kernel_rfl) (by kernel_rfl) (by kernel_rfl) (by kernel_rfl) (g2.rd c5 6 (by kernel_rfl)) hi fy fr ?_
    intro dr dc ct cw gk es
    have et : Mem (idsOf [[(c, .cells ⟨[.slice t d.code.length u, iv d.at_, .int .u64 d.seed]⟩ 78 (0, 0))]]) w cw [ct, [(c, .cells ⟨[.slice t d.code.length u, iv H.2.1, .int .u64 H.2.2.1]⟩ 78 (0, 0))], [(B, .cells ⟨[iv g.2.2.1, iv Q.1, .slice ah H.2.2.2.length ad]⟩ 50 (0, 0))], aq, dx, W, (al ++ [])] := es.pk [0, 2, 3, 4, 6, 1, 5]
    have eu : Mem (idsOf [[(c, .cells ⟨[.slice t d.code.length u, iv d.at_, .int .u64 d.seed]⟩ 78 (0, 0))]]) w cw [ct, [(c, .cells ⟨[.slice t d.code.length u, iv H.2.1, .int .u64 H.2.2.1]⟩ 78 (0, 0))], [(B, .cells ⟨[iv g.2.2.1, iv Q.1, .slice ah H.2.2.2.length ad]⟩ 50 (0, 0))], aq, dx, (W ++ (al ++ []))] := et.regroup (by simp)
    refine wR 1 [(0, pB c 0), (1, .slice z y.length A), (5, .slice dr fg.length dc), (6, .slice a7 H.1.length a5), (7, iv g.2.2.1)] cw (W_nil (N_block ?_))
    obtain rfl := Option.some.inj hm
    exact N_meet fun a ha => ⟨dr, dc, ct, (W ++ (al ++ [])), a7, a5, aq, gk, f9, eu.pk [1, 0, 5, 3], ha.s⟩
   intro it h5 ⟨bi, bc, bw, bx, bj, bd, bz, f7, f8, ev, fn⟩
   refine N_use fn ?_
   have hm := fz
   refine N_then (G_region (wR 3 [(0, pB c 0), (1, .slice z y.length A), (5, .slice bi ao.1.length bc), (6, .slice bj ao.2.1.length bd), (7, iv (w64 (g.2.2.1 + 1)))] h5 (W_nil ?_)))
   obtain rfl := Option.some.inj hm
   exact N_loop fun a ha => ⟨_, rfl, bi, bc, bw, bx, bj, bd, bz, f7, f8, ev.pk [0, 1, 2, 3], ha.s⟩
  refine gF cf (G_exit (N_then_exit (N_then_exit (N_block_eq ?_))))
  obtain rfl := Option.some.inj hm
  obtain rfl := gv _ rfl
  exact N_meet fun a ha => ⟨F, C, ab, W, cp, ay.pk [0, 1, 2], ha.s⟩
 intro iu b6 ⟨l, n, a8, aa, di, a3, fo⟩
 refine N_use fo ?_
 have hm := f2
 refine N_then (G_seq (G_seq (G_region (wR 3 [(0, pB c 0), (5, .slice l k.1.length n), (62, .bool ((k.1.length : Int) == 0))] b6 (W_nil (N_then ?_))))))
 rcases gx_bif hm with ⟨cl, hm⟩ | ⟨cl, hm⟩
 ·refine gT cl (G_seq (G_region (wR 2 [(4, .slice l k.1.length n)] b6 (W_nil (N_then (G_ret (N_then_ret ?_)))))))
  obtain rfl := Option.some.inj hm
  exact N_ret [.slice l k.1.length n] (rC RVs_nil) (⟨l, n, a8, aa, rfl, di, a3.pk [0, 1, 2]⟩)
 refine gF cl (G_skip (N_then (G_seq (G_region (wR 3 [(0, pB c 0), (5, .slice l k.1.length n), (64, pB c 0), (66, iv (k.1.length : Int))] b6 ?_)))))
 obtain ⟨m, g3, hm⟩ := gx_bind hm
 refine wC 76 #[pB c 0, iv (k.1.length : Int)] ((c_s_l1Cur_pick b6 (⟨d.code, k.2.1, k.2.2⟩ : l1Cur) t u (O.memX P a3) c (k.1.length : Int) (a3.hasPick [0]) (a3.nodupPick [0] (by kernel_rfl)) (apartX.old O P a3 [0]) g3).mono ?_)
 rintro e_ b7 ⟨rfl, d8⟩
 have b9 := a3.callF' [0] [1, 2] (by kernel_rfl) d8
 refine ⟨_, rfl, ?_⟩
 refine wR 1 [(0, pB c 0), (5, .slice l k.1.length n), (10, iv m.1)] b7 (W_nil (N_then (G_seq (G_region (wR 2 [(0, pB c 0), (5, .slice l k.1.length n), (10, iv m.1), (68, .slice l k.1.length n), (69, iv m.1)] b7 ?_)))))
 obtain ⟨b, hd, hm⟩ := gx_bind hm
 obtain ⟨jv, N, af, br⟩ := id di
 obtain ⟨x, V⟩ := gxIdx_fst N hd
 refine wV (elemP l (m.1.toNat * 3)) b7 (eI (af.rd b9 0 (by kernel_rfl)) (len_fst N) V) (wV (.agg #[iv b.Guest, iv b.Goal, .slice ((x 0).1) b.Gave.length ((x 0).2)]) b7 (eE true 3 0 (m.1.toNat * 3) (af.rd b9 0 (by kernel_rfl)) V) (wN (.cells ⟨[iv 0, iv 0, .slice none 0 0]⟩ 50 (0, 0)) b9 ?_))
 intro G jj ew
 refine wS true 3 0 (.agg #[iv b.Guest, iv b.Goal, .slice ((x 0).1) b.Gave.length ((x 0).2)]) 3 [iv b.Guest, iv b.Goal, .slice ((x 0).1) b.Gave.length ((x 0).2)] ew rfl ?_
 intro d2 bb
 refine W_nil (N_then (G_seq (G_seq (G_region (wR 1 [(0, pB c 0), (5, .slice l k.1.length n), (10, iv m.1), (11, pB G 0), (72, pB c 0)] d2 ?_)))))
 obtain ⟨S, g4, hm⟩ := gx_bind hm
 refine wC 76 #[pB c 0, iv 40] ((c_s_l1Cur_pick d2 (⟨d.code, m.2.1, m.2.2⟩ : l1Cur) t u (O.memX P bb) c 40 (bb.hasPick [2]) (bb.nodupPick [2] (by kernel_rfl)) (apartX.old O P bb [2]) g4).mono ?_)
 rintro e_ am ⟨rfl, d9⟩
 have a4 := bb.callF' [2] [0, 1, 3] (by kernel_rfl) d9
 refine ⟨_, rfl, ?_⟩
 refine W_nil (N_then (G_block (G_seq (G_region (wR 2 [(0, pB c 0), (5, .slice l k.1.length n), (10, iv m.1), (11, pB G 0), (73, iv S.1), (74, .bool (S.1 == 0))] am (W_nil (N_then ?_)))))))
 rcases gx_bif hm with ⟨cm, hm⟩ | ⟨cm, hm⟩
 ·refine gT cm (G_region (wR 1 [(5, .slice l k.1.length n), (10, iv m.1), (11, pB G 0), (76, pB c 0)] am (wL (E := Gx.encI) [0, 5, 1] 3 [iv 0, iv 5, iv 1] 3 a4 ?_)))
  intro ds dd jd h6 dk av
  obtain ⟨T, g5, hm⟩ := gx_bind hm
  refine wC 75 #[pB c 0, .slice ds [0, 5, 1].length dd] ((c_s_l1Cur_among h6 (⟨d.code, S.2.1, S.2.2⟩ : l1Cur) t u (O.memX P av) c [0, 5, 1] ds dd (dk.rd av 4 (by kernel_rfl)) (av.hasPick [3]) (av.nodupPick [3] (by kernel_rfl)) (apartX.old O P av [3]) (apartX.own dk av 4 (by kernel_rfl) [3] (by kernel_rfl)) g5).mono ?_)
  rintro e_ h7 ⟨rfl, ea⟩
  have ex := av.callF' [3] [0, 1, 2, 4] (by kernel_rfl) ea
  refine ⟨_, rfl, ?_⟩
  refine wR 1 [(5, .slice l k.1.length n), (10, iv m.1), (11, pB G 0), (78, iv T.1), (79, pB G 0)] h7 (wS false 1 0 (iv T.1) 2 [iv T.1, iv b.Goal, .slice ((x 0).1) b.Gave.length ((x 0).2)] ex rfl ?_)
  intro cx ca
  refine W_nil (N_block (N_then (G_seq (G_region (wR 2 [(5, .slice l k.1.length n), (11, pB G 0), (96, .slice l k.1.length n), (97, iv m.1)] cx (wV (.agg #[iv T.1, iv b.Goal, .slice ((x 0).1) b.Gave.length ((x 0).2)]) cx (eL true 3 0 (ca.blk 2 rfl)) ?_))))))
  obtain ⟨jr, he, hm⟩ := gx_bind hm
  obtain ⟨iy, fu⟩ := gxIdx_fst N he
  refine wV (elemP l (m.1.toNat * 3)) cx (eI (af.rd ca 0 (by kernel_rfl)) (len_fst N) fu) (wE true 3 m.1.toNat 0 (m.1.toNat * 3) (b, x) ((⟨T.1, b.Goal, b.Gave⟩ : Balloon), x) (.agg #[iv T.1, iv b.Goal, .slice ((x 0).1) b.Gave.length ((x 0).2)]) 0 ca af (gxIdx_spec V).2 ?_)
  intro h8 dy gl ey
  have gm : ownD deepBalloon (k.1.set m.1.toNat (⟨T.1, b.Goal, b.Gave⟩ : Balloon)) l n dy aa := ⟨_, set_fst N m.1.toNat ((⟨T.1, b.Goal, b.Gave⟩ : Balloon), x), gl, (by rw [flatMap_setSame (gxIdx_spec V).2 (by kernel_rfl)]; exact br)⟩
  have i2 := gxIdx_put (⟨T.1, b.Goal, b.Gave⟩ : Balloon) (gxIdx_down N V)
  refine wX 5 (.slice l k.1.length n) (.slice l (k.1.set m.1.toNat (⟨T.1, b.Goal, b.Gave⟩ : Balloon)).length n) (by rw [@List.length_set _ k.1 m.1.toNat (⟨T.1, b.Goal, b.Gave⟩ : Balloon)]) (wX 96 (.slice l k.1.length n) (.slice l (k.1.set m.1.toNat (⟨T.1, b.Goal, b.Gave⟩ : Balloon)).length n) (by rw [@List.length_set _ k.1 m.1.toNat (⟨T.1, b.Goal, b.Gave⟩ : Balloon)]) (W_nil (N_then (G_seq (G_region (wR 2 [(4, .slice l (k.1.set m.1.toNat (⟨T.1, b.Goal, b.Gave⟩ : Balloon)).length n)] h8 (W_nil (N_then (G_ret ?_)))))))))
  obtain rfl := Option.some.inj hm
  exact N_ret [.slice l (k.1.set m.1.toNat (⟨T.1, b.Goal, b.Gave⟩ : Balloon)).length n] (rC RVs_nil) (⟨l, n, dy, aa, rfl, gm, ey.pk [4, 0, 1]⟩)
 refine gF cm (G_seq (G_region (wR 2 [(0, pB c 0), (5, .slice l k.1.length n), (10, iv m.1), (11, pB G 0), (73, iv S.1), (80, .bool (S.1 == 1))] am (W_nil (N_then ?_)))))
 rcases gx_bif hm with ⟨cn, hm⟩ | ⟨cn, hm⟩
 ·refine gT cn (G_region (wR 1 [(5, .slice l k.1.length n), (10, iv m.1), (11, pB G 0), (82, pB c 0)] am (wL (E := Gx.encI) [(-1), 17] 2 [iv (-1), iv 17] 3 a4 ?_)))
  intro dt de je h9 dl aw
  obtain ⟨U, g6, hm⟩ := gx_bind hm
  refine wC 75 #[pB c 0, .slice dt [(-1), 17].length de] ((c_s_l1Cur_among h9 (⟨d.code, S.2.1, S.2.2⟩ : l1Cur) t u (O.memX P aw) c [(-1), 17] dt de (dl.rd aw 4 (by kernel_rfl)) (aw.hasPick [3]) (aw.nodupPick [3] (by kernel_rfl)) (apartX.old O P aw [3]) (apartX.own dl aw 4 (by kernel_rfl) [3] (by kernel_rfl)) g6).mono ?_)
  rintro e_ ia ⟨rfl, eb⟩
  have ez := aw.callF' [3] [0, 1, 2, 4] (by kernel_rfl) eb
  refine ⟨_, rfl, ?_⟩
  refine wR 1 [(5, .slice l k.1.length n), (10, iv m.1), (11, pB G 0), (84, iv U.1), (85, pB G 1)] ia (wS false 1 1 (iv U.1) 2 [iv b.Guest, iv U.1, .slice ((x 0).1) b.Gave.length ((x 0).2)] ez rfl ?_)
  intro cy cb
  refine W_nil (N_block (N_then (G_seq (G_region (wR 2 [(5, .slice l k.1.length n), (11, pB G 0), (96, .slice l k.1.length n), (97, iv m.1)] cy (wV (.agg #[iv b.Guest, iv U.1, .slice ((x 0).1) b.Gave.length ((x 0).2)]) cy (eL true 3 0 (cb.blk 2 rfl)) ?_))))))
  obtain ⟨js, hf, hm⟩ := gx_bind hm
  obtain ⟨iz, fv⟩ := gxIdx_fst N hf
  refine wV (elemP l (m.1.toNat * 3)) cy (eI (af.rd cb 0 (by kernel_rfl)) (len_fst N) fv) (wE true 3 m.1.toNat 0 (m.1.toNat * 3) (b, x) ((⟨b.Guest, U.1, b.Gave⟩ : Balloon), x) (.agg #[iv b.Guest, iv U.1, .slice ((x 0).1) b.Gave.length ((x 0).2)]) 0 cb af (gxIdx_spec V).2 ?_)
  intro ib dz gn e0
  have go : ownD deepBalloon (k.1.set m.1.toNat (⟨b.Guest, U.1, b.Gave⟩ : Balloon)) l n dz aa := ⟨_, set_fst N m.1.toNat ((⟨b.Guest, U.1, b.Gave⟩ : Balloon), x), gn, (by rw [flatMap_setSame (gxIdx_spec V).2 (by kernel_rfl)]; exact br)⟩
  have i3 := gxIdx_put (⟨b.Guest, U.1, b.Gave⟩ : Balloon) (gxIdx_down N V)
  refine wX 5 (.slice l k.1.length n) (.slice l (k.1.set m.1.toNat (⟨b.Guest, U.1, b.Gave⟩ : Balloon)).length n) (by rw [@List.length_set _ k.1 m.1.toNat (⟨b.Guest, U.1, b.Gave⟩ : Balloon)]) (wX 96 (.slice l k.1.length n) (.slice l (k.1.set m.1.toNat (⟨b.Guest, U.1, b.Gave⟩ : Balloon)).length n) (by rw [@List.length_set _ k.1 m.1.toNat (⟨b.Guest, U.1, b.Gave⟩ : Balloon)]) (W_nil (N_then (G_seq (G_region (wR 2 [(4, .slice l (k.1.set m.1.toNat (⟨b.Guest, U.1, b.Gave⟩ : Balloon)).length n)] ib (W_nil (N_then (G_ret ?_)))))))))
  obtain rfl := Option.some.inj hm
  exact N_ret [.slice l (k.1.set m.1.toNat (⟨b.Guest, U.1, b.Gave⟩ : Balloon)).length n] (rC RVs_nil) (⟨l, n, dz, aa, rfl, go, e0.pk [4, 0, 1]⟩)
 refine gF cn (G_seq (G_region (wR 2 [(0, pB c 0), (5, .slice l k.1.length n), (10, iv m.1), (11, pB G 0), (86, .bool (S.1 == 2))] am (W_nil (N_then ?_)))))
 rcases gx_bif hm with ⟨co, hm⟩ | ⟨co, hm⟩
 ·refine gT co ?_
  obtain ⟨K, g7, hm⟩ := gx_bind hm
  have e1 : Mem (idsOf [[(c, .cells ⟨[.slice t d.code.length u, iv d.at_, .int .u64 d.seed]⟩ 78 (0, 0))]]) w am ([a8, aa, [(G, .cells ⟨[iv b.Guest, iv b.Goal, .slice ((x 0).1) b.Gave.length ((x 0).2)]⟩ 50 (0, 0))]] ++ (List.range 6).map (fun i => ([[], [], [], [], [(c, .cells ⟨[.slice t d.code.length u, iv S.2.1, .int .u64 S.2.2]⟩ 78 (0, 0))], []] : List Seg).getD i [])) := a4.pk [0, 1, 2, 300000, 300001, 300002, 300003, 3, 300005]
  refine G_sub [(0, pB c 0), (5, .slice l k.1.length n), (10, iv m.1), (11, pB G 0), (86, .bool (S.1 == 2))] (by kernel_rfl) (G_dagL 6 [[], [0], [], [], [2, 3], []] [[], [], [], [], [], []] [[], [], [], [], [3], []] [[], [], [], [], [], [4]] [[], [], [], [], [], []] [[], [], [], [], [], []] (fun i => ([[], [], [], [], [(c, .cells ⟨[.slice t d.code.length u, iv S.2.1, .int .u64 S.2.2]⟩ 78 (0, 0))], []] : List Seg).getD i []) (fun i => ([fun f v s => v = (pB G 2 : Value) ∧ s = [], fun f v s => v = (.slice ((x 0).1) b.Gave.length ((x 0).2) : Value) ∧ s = [], fun f v s => v = (pB c 0 : Value) ∧ s = [], fun f v s => ∃ (Z : Option Addr) (Y : Nat), v = (.slice Z [0, 3, 16].length Y : Value) ∧ ownS Gx.encI [0, 3, 16] Z Y s, fun f v s => v = (iv K.1 : Value) ∧ s = [(c, .cells ⟨[.slice t d.code.length u, iv K.2.1, .int .u64 K.2.2]⟩ 78 (0, 0))], fun f v s => ∃ (ak : Option Addr) (aj : Nat), v = (.slice ak [K.1].length aj : Value) ∧ ownS Gx.encI [K.1] ak aj s] : List ((Nat → Value) → Value → Seg → Prop)).getD i (fun _ _ _ => False)) (fun j f v => ∃ s, (fun i => ([fun f v s => v = (pB G 2 : Value) ∧ s = [], fun f v s => v = (.slice ((x 0).1) b.Gave.length ((x 0).2) : Value) ∧ s = [], fun f v s => v = (pB c 0 : Value) ∧ s = [], fun f v s => ∃ (Z : Option Addr) (Y : Nat), v = (.slice Z [0, 3, 16].length Y : Value) ∧ ownS Gx.encI [0, 3, 16] Z Y s, fun f v s => v = (iv K.1 : Value) ∧ s = [(c, .cells ⟨[.slice t d.code.length u, iv K.2.1, .int .u64 K.2.2]⟩ 78 (0, 0))], fun f v s => ∃ (ak : Option Addr) (aj : Nat), v = (.slice ak [K.1].length aj : Value) ∧ ownS Gx.encI [K.1] ak aj s] : List ((Nat → Value) → Value → Seg → Prop)).getD i (fun _ _ _ => False)) j f v s) [] [1, 3, 4, 5] [3, 4, 5] (fun _ _ _ s h => ⟨s, h⟩) (by kernel_rfl) (by kernel_rfl) e1 (by kernel_rfl) (by kernel_rfl) (by kernel_rfl) (by kernel_rfl) (allOb_cons ?_ (allOb_cons ?_ (allOb_cons ?_ (allOb_cons ?_ (allOb_cons ?_ (allOb_cons ?_ allOb_nil)))))) ?_)
  ·intro X a6
   intro R ic e2
   exact wR 1 [(88, pB G 2)] ic (W_nil (oE (pB G 2) [] ⟨by kernel_rfl, rfl⟩ e2))
  ·intro X a6
   intro v0_ hb0_
   obtain ⟨rfl, _⟩ := hb0_
   intro R ie c6
   exact wV (.slice ((x 0).1) b.Gave.length ((x 0).2)) ie (eL false 1 2 (c6.blk 2 rfl)) (W_nil (oE (.slice ((x 0).1) b.Gave.length ((x 0).2)) [] ⟨by kernel_rfl, rfl⟩ c6))
  ·intro X a6
   intro R ig e3
   exact wR 1 [(90, pB c 0)] ig (W_nil (oE (pB c 0) [] ⟨by kernel_rfl, rfl⟩ e3))
  ·intro X a6
   intro R jk e4
   refine wL (E := Gx.encI) [0, 3, 16] 3 [iv 0, iv 3, iv 16] 3 e4 ?_
   intro Z Y hs jl bf e5
   exact W_nil (oE (.slice Z [0, 3, 16].length Y) hs ⟨Z, Y, rfl, bf⟩ (Mem.mid e5))
  ·intro X a6
   intro v2_ hb2_
   obtain ⟨rfl, _⟩ := hb2_
   intro v3_ hb3_
   obtain ⟨Z, Y, rfl, bf⟩ := hb3_
   intro R ih ax
   refine wC 75 #[pB c 0, .slice Z [0, 3, 16].length Y] ((c_s_l1Cur_among ih (⟨d.code, S.2.1, S.2.2⟩ : l1Cur) t u (O.memX P ax) c [0, 3, 16] Z Y (bf.rd ax 4 (by kernel_rfl)) (ax.hasPick [3]) (ax.nodupPick [3] (by kernel_rfl)) (apartX.old O P ax [3]) (apartX.own bf ax 4 (by kernel_rfl) [3] (by kernel_rfl)) g7).mono ?_)
   rintro e_ jm ⟨rfl, ec⟩
   refine ⟨_, rfl, ?_⟩
   exact W_nil (oE (iv K.1) [(c, .cells ⟨[.slice t d.code.length u, iv K.2.1, .int .u64 K.2.2]⟩ 78 (0, 0))] ⟨rfl, rfl⟩ (Mem.callMidF ax ec))
  ·intro X a6
   intro v4_ hb4_
   obtain ⟨_, rfl, _⟩ := hb4_
   intro R jn e6
   refine wL (E := Gx.encI) [K.1] 1 [iv K.1] 3 e6 ?_
   intro ak aj ht jo cr e7
   exact W_nil (oE (.slice ak [K.1].length aj) ht ⟨ak, aj, rfl, cr⟩ (Mem.mid e7))
  intro X a6
  intro v1_ hb1_
  obtain ⟨rfl, _⟩ := hb1_
  intro v3_ hb3_
  obtain ⟨Z, Y, rfl, bf⟩ := hb3_
  intro v4_ hb4_
  obtain ⟨rfl, hs4_⟩ := hb4_
  intro v5_ hb5_
  obtain ⟨ak, aj, rfl, cr⟩ := hb5_
  intro ii e8
  have c7 : Mem (idsOf [[(c, .cells ⟨[.slice t d.code.length u, iv d.at_, .int .u64 d.seed]⟩ 78 (0, 0))]]) w ii [a8, aa, [(G, .cells ⟨[iv b.Guest, iv b.Goal, .slice ((x 0).1) b.Gave.length ((x 0).2)]⟩ 50 (0, 0))], (X 3), (X 4), (X 5)] := e8
  rw [hs4_] at c7
  obtain ⟨bl, hn, bm, g8, ft, gx⟩ := br.lens (gxIdx_spec V).2
  have e9 := c7.cut 1 (sa := bl) (sb := hn) (sc := bm) g8 (by kernel_rfl)
  obtain ⟨hu, hl, g9, gp, i6⟩ := ft
  have c8 := e9.cut 6 (sa := []) (sb := hu) (sc := hl) g9 (by kernel_rfl)
  obtain ⟨L, fs, hm⟩ := gx_bind hm
  refine wA 8 [iv 0] 8 c8 gp (cr.rd c8 5 (by kernel_rfl)) fs ?_
  intro ai ae b2 ij gq fa
  refine wR 1 [(5, .slice l k.1.length n), (10, iv m.1), (11, pB G 0), (94, .slice ai L.length ae), (95, pB G 2)] ij (wS false 1 2 (.slice ai L.length ae) 2 [iv b.Guest, iv b.Goal, .slice ai L.length ae] fa rfl ?_)
  intro cz cc
  refine W_nil (N_block (N_then (G_seq (G_region (wR 2 [(5, .slice l k.1.length n), (11, pB G 0), (96, .slice l k.1.length n), (97, iv m.1)] cz (wV (.agg #[iv b.Guest, iv b.Goal, .slice ai L.length ae]) cz (eL true 3 0 (cc.blk 2 rfl)) ?_))))))
  obtain ⟨jt, hg, hm⟩ := gx_bind hm
  obtain ⟨i0, fw⟩ := gxIdx_fst N hg
  refine wV (elemP l (m.1.toNat * 3)) cz (eI (af.rd cc 0 (by kernel_rfl)) (len_fst N) fw) (wE true 3 m.1.toNat 0 (m.1.toNat * 3) (b, x) ((⟨b.Guest, b.Goal, L⟩ : Balloon), (plOf [(ai, ae)])) (.agg #[iv b.Guest, iv b.Goal, .slice ai L.length ae]) 0 cc af (gxIdx_spec V).2 ?_)
  intro c0 b3 gr fb
  have fc : Mem (idsOf [[(c, .cells ⟨[.slice t d.code.length u, iv d.at_, .int .u64 d.seed]⟩ 78 (0, 0))]]) w c0 [b3, [(G, .cells ⟨[iv b.Guest, iv b.Goal, .slice ai L.length ae]⟩ 50 (0, 0))], (X 3), [(c, .cells ⟨[.slice t d.code.length u, iv K.2.1, .int .u64 K.2.2]⟩ 78 (0, 0))], (X 5), [], bl, b2, bm] := fb.pk [0, 2, 3, 4, 5, 6, 1, 8, 7]
  have fd : Mem (idsOf [[(c, .cells ⟨[.slice t d.code.length u, iv d.at_, .int .u64 d.seed]⟩ 78 (0, 0))]]) w c0 [b3, [(G, .cells ⟨[iv b.Guest, iv b.Goal, .slice ai L.length ae]⟩ 50 (0, 0))], (X 3), [(c, .cells ⟨[.slice t d.code.length u, iv K.2.1, .int .u64 K.2.2]⟩ 78 (0, 0))], (X 5), [], (bl ++ ((b2 ++ []) ++ bm))] := fc.regroup (by simp)
  have gs : ownD deepBalloon (k.1.set m.1.toNat (⟨b.Guest, b.Goal, L⟩ : Balloon)) l n b3 (bl ++ ((b2 ++ []) ++ bm)) := ⟨_, set_fst N m.1.toNat ((⟨b.Guest, b.Goal, L⟩ : Balloon), (plOf [(ai, ae)])), gr, gx ((⟨b.Guest, b.Goal, L⟩ : Balloon), (plOf [(ai, ae)])) _ (ownI_cons (i := ⟨Int, Gx.encI, _, _, _⟩) gq ownI_nil)⟩
  have i4 := gxIdx_put (⟨b.Guest, b.Goal, L⟩ : Balloon) (gxIdx_down N V)
  refine wX 5 (.slice l k.1.length n) (.slice l (k.1.set m.1.toNat (⟨b.Guest, b.Goal, L⟩ : Balloon)).length n) (by rw [@List.length_set _ k.1 m.1.toNat (⟨b.Guest, b.Goal, L⟩ : Balloon)]) (wX 96 (.slice l k.1.length n) (.slice l (k.1.set m.1.toNat (⟨b.Guest, b.Goal, L⟩ : Balloon)).length n) (by rw [@List.length_set _ k.1 m.1.toNat (⟨b.Guest, b.Goal, L⟩ : Balloon)]) (W_nil (N_then (G_seq (G_region (wR 2 [(4, .slice l (k.1.set m.1.toNat (⟨b.Guest, b.Goal, L⟩ : Balloon)).length n)] c0 (W_nil (N_then (G_ret ?_)))))))))
  obtain rfl := Option.some.inj hm
  exact N_ret [.slice l (k.1.set m.1.toNat (⟨b.Guest, b.Goal, L⟩ : Balloon)).length n] (rC RVs_nil) (⟨l, n, b3, (bl ++ ((b2 ++ []) ++ bm)), rfl, gs, fd.pk [3, 0, 6]⟩)
 refine gF co (G_skip (N_block (N_then (G_seq (G_region (wR 2 [(5, .slice l k.1.length n), (11, pB G 0), (96, .slice l k.1.length n), (97, iv m.1)] am (wV (.agg #[iv b.Guest, iv b.Goal, .slice ((x 0).1) b.Gave.length ((x 0).2)]) am (eL true 3 0 (a4.blk 2 rfl)) ?_)))))))
 obtain ⟨ju, hh, hm⟩ := gx_bind hm
 obtain ⟨i1, fx⟩ := gxIdx_fst N hh
 refine wV (elemP l (m.1.toNat * 3)) am (eI (af.rd a4 0 (by kernel_rfl)) (len_fst N) fx) (wE true 3 m.1.toNat 0 (m.1.toNat * 3) (b, x) (b, x) (.agg #[iv b.Guest, iv b.Goal, .slice ((x 0).1) b.Gave.length ((x 0).2)]) 0 a4 af (gxIdx_spec V).2 ?_)
 intro ik d0 gt fe
 have gu : ownD deepBalloon (k.1.set m.1.toNat b) l n d0 aa := ⟨_, set_fst N m.1.toNat (b, x), gt, (by rw [flatMap_setSame (gxIdx_spec V).2 (by kernel_rfl)]; exact br)⟩
 have i5 := gxIdx_put b (gxIdx_down N V)
 refine wX 5 (.slice l k.1.length n) (.slice l (k.1.set m.1.toNat b).length n) (by rw [@List.length_set _ k.1 m.1.toNat b]) (wX 96 (.slice l k.1.length n) (.slice l (k.1.set m.1.toNat b).length n) (by rw [@List.length_set _ k.1 m.1.toNat b]) (W_nil (N_then (G_seq (G_region (wR 2 [(4, .slice l (k.1.set m.1.toNat b).length n)] ik (W_nil (N_then (G_ret ?_)))))))))
 obtain rfl := Option.some.inj hm
 exact N_ret [.slice l (k.1.set m.1.toNat b).length n] (rC RVs_nil) (⟨l, n, d0, aa, rfl, gu, fe.pk [3, 0, 1]⟩)
theorem c_s_l1Cur_guest18 (w : World) (a : l1Cur) (c : Option Addr) (d : Nat) (j : rdS Gx.encU8 w a.code c d) (b : Nat) (hA : ∀ q ∈ List.flatten [[(b, .cells ⟨[.slice c a.code.length d, iv a.at_, .int .u64 a.seed]⟩ 78 (0, 0))]], w.heap[q.1]? = some q.2) (hN : (idsOf [[(b, .cells ⟨[.slice c a.code.length d, iv a.at_, .int .u64 a.seed]⟩ 78 (0, 0))]]).Nodup) (k : apartX (idsOf [[(b, .cells ⟨[.slice c a.code.length d, iv a.at_, .int .u64 a.seed]⟩ 78 (0, 0))]]) a.code c) {r : Int × Int × Int} (hm : M.s_l1Cur_guest18 a = some r) :
  Calls Try.prog 74 #[pB b 0] w fun e w' => e = .returned (iv r.1) ∧ Mem (idsOf [[(b, .cells ⟨[.slice c a.code.length d, iv a.at_, .int .u64 a.seed]⟩ 78 (0, 0))]]) w w' [[(b, .cells ⟨[.slice c a.code.length d, iv r.2.1, .int .u64 r.2.2]⟩ 78 (0, 0))]] := by
 unfold M.s_l1Cur_guest18 at hm
 refine cE Try.func74 ?_
 have M0 := Mem.start' w [[(b, .cells ⟨[.slice c a.code.length d, iv a.at_, .int .u64 a.seed]⟩ 78 (0, 0))]] hA hN
 refine G_seq (G_region (wR 1 [(0, pB b 0)] w (W_nil (N_then (G_seq (G_region (wR 1 [(0, pB b 0), (3, pB b 0)] w (wL (E := Gx.encI) [1, 2, 3, 4, 0, 5] 6 [iv 1, iv 2, iv 3, iv 4, iv 0, iv 5] 3 M0 ?_))))))))
 intro i g D v m h
 refine wR 1 [(3, pB b 0), (4, .slice i [1, 2, 3, 4, 0, 5].length g), (5, pB b 0)] v ?_
 obtain ⟨l, A, hm⟩ := gx_bind hm
 refine wC 76 #[pB b 0, iv 24] ((c_s_l1Cur_pick v a c d (j.memX k h) b 24 (h.hasPick [0]) (h.nodupPick [0] (by kernel_rfl)) (apartX.old j k h [0]) A).mono ?_)
 rintro e_ o ⟨rfl, x⟩
 have f := h.callF' [0] [1] (by kernel_rfl) x
 refine ⟨_, rfl, ?_⟩
 refine wR 2 [(3, pB b 0), (4, .slice i [1, 2, 3, 4, 0, 5].length g), (8, iv (w64 (4 + (w64 (l.1.tdiv 11)))))] o ?_
 obtain ⟨t, n, hm⟩ := gx_bind hm
 refine wV (.slice (subP i (0 : Int).toNat g 1) t.length (g - (0 : Int).toNat)) o (E_slice (E := Gx.encI) _ _ _ _ [1, 2, 3, 4, 0, 5].length 0 (w64 (4 + (w64 (l.1.tdiv 11)))) rfl (by kernel_rfl) (Or.inl ⟨rfl, rfl⟩) (Or.inr ⟨_, rfl, by kernel_rfl⟩) (by kernel_rfl) (m.rd f 0 (by kernel_rfl)) rfl n) ?_
 obtain ⟨u, B, hm⟩ := gx_bind hm
 refine wC 75 #[pB b 0, .slice (subP i (0 : Int).toNat g 1) t.length (g - (0 : Int).toNat)] ((c_s_l1Cur_among o (⟨a.code, l.2.1, l.2.2⟩ : l1Cur) c d (j.memX k f) b t (subP i (0 : Int).toNat g 1) (g - (0 : Int).toNat) ((m.rd f 0 (by kernel_rfl)).sliceM n) (f.hasPick [1]) (f.nodupPick [1] (by kernel_rfl)) (apartX.old j k f [1]) (apartX.slice (apartX.own m f 0 (by kernel_rfl) [1] (by kernel_rfl)) n) B).mono ?_)
 rintro e_ C ⟨rfl, y⟩
 have z := f.callF' [1] [0] (by kernel_rfl) y
 refine ⟨_, rfl, ?_⟩
 refine wR 1 [(2, iv u.1)] C (W_nil (N_then (G_ret ?_)))
 obtain rfl := Option.some.inj hm
 exact N_ret [iv u.1] (rC RVs_nil) (⟨rfl, z.pk [1]⟩)
theorem c_s_DrawInflate (w : World) (f : List Int) (h : Option Addr) (g : Nat) (j : rdS Gx.encU8 w f h g) {r : (List Int) × (List Balloon) × Int} (hm : M.s_DrawInflate f = some r) :
  Calls Try.prog 39 #[.slice h f.length g] w fun e w' => ∃ (z : Option Addr) (x : Nat) (C : Seg), ∃ (A : Option Addr) (y : Nat) (D : Seg) (E : Seg), e = .returned (.tuple #[.slice z r.1.length x, .slice A r.2.1.length y, iv r.2.2]) ∧ ownS Gx.encI r.1 z x C ∧ ownD deepBalloon r.2.1 A y D E ∧ Mem [] w w' [C, D, E] := by
 unfold M.s_DrawInflate at hm
 refine cE Try.func39 ?_
 have M0 := Mem.refl [] w
 refine G_seq (G_region (wR 3 [(0, .slice h f.length g)] w (W_nil (N_then (G_seq (G_region (wR 2 [(9, .agg #[.slice h f.length g, iv 0, .int .u64 0])] w (wN (.cells ⟨[.slice h f.length g, iv 0, .int .u64 0]⟩ 78 (0, 0)) M0 ?_))))))))
 intro a t l
 refine wR 1 [(5, pB a 0)] t (W_nil (N_then (G_seq (G_region (wR 1 [(5, pB a 0), (11, pB a 0)] t ?_)))))
 obtain ⟨b, K, hm⟩ := gx_bind hm
 refine wC 72 #[pB a 0] ((c_s_l1Cur_owners t (⟨f, 0, 0⟩ : l1Cur) h g (j.mem0 l) a (l.hasPick [0]) (l.nodupPick [0] (by kernel_rfl)) (apartX.old0 j l [0]) K).mono ?_)
 rintro e_ u ⟨d, c, O, rfl, q, F⟩
 have i := l.callF' [0] [] (by kernel_rfl) F
 refine ⟨_, rfl, ?_⟩
 refine wR 1 [(5, pB a 0), (6, .slice d b.1.length c)] u (W_nil (N_then (G_seq (G_region (wR 2 [(5, pB a 0), (6, .slice d b.1.length c), (13, pB a 0), (14, .slice d b.1.length c)] u ?_)))))
 obtain ⟨k, L, hm⟩ := gx_bind hm
 refine wC 73 #[pB a 0, .slice d b.1.length c] ((c_s_l1Cur_balloons u (⟨f, b.2.1, b.2.2⟩ : l1Cur) h g (j.mem0 i) a b.1 d c (q.rd i 1 (by kernel_rfl)) (i.hasPick [0]) (i.nodupPick [0] (by kernel_rfl)) (apartX.old0 j i [0]) (apartX.own q i 1 (by kernel_rfl) [0] (by kernel_rfl)) L).mono ?_)
 rintro e_ v ⟨o, n, P, Q, rfl, J, G⟩
 have m := i.callF' [0] [1] (by kernel_rfl) G
 refine ⟨_, rfl, ?_⟩
 refine wR 1 [(5, pB a 0), (6, .slice d b.1.length c), (7, .slice o k.1.length n)] v (W_nil (N_then (G_seq (G_region (wR 3 [(16, .slice d b.1.length c), (17, .slice o k.1.length n), (18, pB a 0)] v ?_)))))
 obtain ⟨B, N, hm⟩ := gx_bind hm
 refine wC 74 #[pB a 0] ((c_s_l1Cur_guest18 v (⟨f, k.2.1, k.2.2⟩ : l1Cur) h g (j.mem0 m) a (m.hasPick [1]) (m.nodupPick [1] (by kernel_rfl)) (apartX.old0 j m [1]) N).mono ?_)
 rintro e_ R ⟨rfl, H⟩
 have I := m.callF' [1] [0, 2, 3] (by kernel_rfl) H
 refine ⟨_, rfl, ?_⟩
 refine wR 3 [(2, .slice d b.1.length c), (3, .slice o k.1.length n), (4, iv B.1)] R (W_nil (N_then (G_ret ?_)))
 obtain rfl := Option.some.inj hm
 exact N_ret [.slice d b.1.length c, .slice o k.1.length n, iv B.1] (rC (rC (rC RVs_nil))) (⟨d, c, O, o, n, P, Q, rfl, q, J, I.pk [0, 1, 2]⟩)
theorem c_l_rInts (w : World) (c : List Int) (f : Option Addr) (h : Nat) (t : rdS Gx.encI w c f h) (d : List Int) (g : Option Addr) (i : Nat) (u : rdS Gx.encI w d g i) {r : Bool} (hm : M.l_rInts c d = some r) :
  Calls Try.prog 40 #[.slice f c.length h, .slice g d.length i] w fun e w' => e = .returned (.bool r) ∧ Mem [] w w' [] := by
 unfold M.l_rInts at hm
 refine cE Try.func40 ?_
 have M0 := Mem.refl [] w
 refine G_seq (G_region (wR 1 [(0, .slice f c.length h), (1, .slice g d.length i)] w (W_nil (N_then (G_seq (G_seq (G_region (wR 5 [(0, .slice f c.length h), (1, .slice g d.length i), (10, .bool ((c.length : Int) != (d.length : Int)))] w (W_nil (N_then ?_))))))))))
 rcases gx_bif hm with ⟨k, hm⟩ | ⟨k, hm⟩
 ·refine gT k (G_seq (G_region (wR 1 [(4, .bool false)] w (W_nil (N_then (G_ret (N_then_ret ?_)))))))
  obtain rfl := Option.some.inj hm
  exact N_ret [.bool false] (rC RVs_nil) (⟨rfl, M0.pk []⟩)
 refine gF k (G_skip (N_then (G_seq (G_seq (G_region (wR 1 [(0, .slice f c.length h), (1, .slice g d.length i), (5, iv 0)] w (W_nil (N_then ?_))))))))
 obtain ⟨G, F, v⟩ := gx_bind hm
 refine G_meet (fun a w' => ∃ (A : Unit), G = .inl A ∧ Mem [] w w' [] ∧ Sat Try.f40.ntmps [] a) ?_ ?_
 ·refine G_block (G_while (σ := Int) (ρ := (Unit) ⊕ (Bool)) (fun b a w' => Mem [] w w' [] ∧ Sat Try.f40.ntmps [(0, .slice f c.length h), (1, .slice g d.length i), (5, iv b)] a) F (fun a ha => ⟨M0.pk [], ha.s⟩) ?_)
  clear hm
  intro b L hm x J H ⟨o, D⟩
  refine G_use D (G_seq (G_seq (G_region (wR 4 [(0, .slice f c.length h), (1, .slice g d.length i), (5, iv b), (14, .bool (decide (b < (c.length : Int))))] H (W_nil (N_then ?_))))))
  rcases gx_bif hm with ⟨l, hm⟩ | ⟨l, hm⟩
  ·refine gT l (G_skip (N_then (G_seq (G_block (G_seq (G_quiet (by kernel_rfl) (by kernel_rfl) o (zR [.slice f c.length h, iv b] [(0, .slice f c.length h), (1, .slice g d.length i), (5, iv b), (17, .slice f c.length h), (18, iv b)] ?_)))))))
   obtain ⟨j, y, hm⟩ := gx_bind hm
   refine zV (elemP f (b.toNat * 1)) (fun w_ M_ => (eI (t.mem0 M_) rfl y)) (zV (iv j) (fun w_ M_ => (eE false 1 0 (b.toNat * 1) (t.mem0 M_) y)) (zR [.slice g d.length i, iv b] [(0, .slice f c.length h), (1, .slice g d.length i), (5, iv b), (20, iv j), (21, .slice g d.length i), (22, iv b)] ?_))
   obtain ⟨n, z, hm⟩ := gx_bind hm
   refine zV (elemP g (b.toNat * 1)) (fun w_ M_ => (eI (u.mem0 M_) rfl z)) (zV (iv n) (fun w_ M_ => (eE false 1 0 (b.toNat * 1) (u.mem0 M_) z)) (zR [.bool (j != n)] [(0, .slice f c.length h), (1, .slice g d.length i), (5, iv b), (25, .bool (j != n))] (Z_end fun B q => (N_then ?_))))
   rcases gx_bif hm with ⟨m, hm⟩ | ⟨m, hm⟩
   ·refine gT m (G_seq (G_region (wR 1 [(4, .bool false)] B (W_nil (N_then (G_ret (N_block_ret (N_then_ret (N_then_ret ?_)))))))))
    obtain rfl := Option.some.inj hm
    obtain rfl := x _ rfl
    have hm := v; simp only [Sum.elim_inr] at hm
    refine N_block_ret (N_meet_ret (N_then_ret ?_))
    obtain rfl := Option.some.inj hm
    exact N_ret [.bool false] (rC RVs_nil) (⟨rfl, q.pk []⟩)
   refine gF m (G_skip (N_block (N_then (G_region (wR 3 [(0, .slice f c.length h), (1, .slice g d.length i), (5, iv (w64 (b + 1)))] B (W_nil ?_))))))
   obtain rfl := Option.some.inj hm
   exact N_loop fun a ha => ⟨_, rfl, q.pk [], ha.s⟩
  refine gF l (G_exit (N_then_exit (N_then_exit (N_block_eq ?_))))
  obtain rfl := Option.some.inj hm
  obtain rfl := x _ rfl
  exact N_meet fun a ha => ⟨_, rfl, o.pk [], ha.s⟩
 intro K I ⟨A, hout_, C, E⟩
 refine N_use E ?_
 subst hout_
 have hm := v; simp only [Sum.elim_inl] at hm
 refine N_then (G_seq (G_region (wR 1 [(4, .bool true)] I (W_nil (N_then (G_ret ?_))))))
 obtain rfl := Option.some.inj hm
 exact N_ret [.bool true] (rC RVs_nil) (⟨rfl, C.pk []⟩)
theorem c_l_rBalloons (w : World) (f : List Balloon) (c : Option Addr) (h : Nat) (W : rdD deepBalloon w f c h) (g : List Balloon) (d : Option Addr) (i : Nat) (X : rdD deepBalloon w g d i) {r : Bool} (hm : M.l_rBalloons f g = some r) :
  Calls Try.prog 41 #[.slice c f.length h, .slice d g.length i] w fun e w' => e = .returned (.bool r) ∧ Mem [] w w' [] := by
 unfold M.l_rBalloons at hm
 refine cE Try.func41 ?_
 have M0 := Mem.refl [] w
 refine G_seq (G_region (wR 1 [(0, .slice c f.length h), (1, .slice d g.length i)] w (W_nil (N_then (G_seq (G_seq (G_region (wR 5 [(0, .slice c f.length h), (1, .slice d g.length i), (10, .bool ((f.length : Int) != (g.length : Int)))] w (W_nil (N_then ?_))))))))))
 rcases gx_bif hm with ⟨C, hm⟩ | ⟨C, hm⟩
 ·refine gT C (G_seq (G_region (wR 1 [(4, .bool false)] w (W_nil (N_then (G_ret (N_then_ret ?_)))))))
  obtain rfl := Option.some.inj hm
  exact N_ret [.bool false] (rC RVs_nil) (⟨rfl, M0.pk []⟩)
 refine gF C (G_skip (N_then (G_seq (G_seq (G_region (wR 1 [(0, .slice c f.length h), (1, .slice d g.length i), (5, iv 0)] w (W_nil (N_then ?_))))))))
 obtain ⟨ao, ag, O⟩ := gx_bind hm
 refine G_meet (fun a w' => ∃ (Q : Unit), ao = .inl Q ∧ Mem [] w w' [] ∧ Sat Try.f41.ntmps [] a) ?_ ?_
 ·refine G_block (G_while (σ := Int) (ρ := (Unit) ⊕ (Bool)) (fun b a w' => Mem [] w w' [] ∧ Sat Try.f41.ntmps [(0, .slice c f.length h), (1, .slice d g.length i), (5, iv b)] a) ag (fun a ha => ⟨M0.pk [], ha.s⟩) ?_)
  clear hm
  intro b a5 hm P ar ap ⟨L, Y⟩
  refine G_use Y (G_seq (G_seq (G_region (wR 4 [(0, .slice c f.length h), (1, .slice d g.length i), (5, iv b), (14, .bool (decide (b < (f.length : Int))))] ap (W_nil (N_then ?_))))))
  rcases gx_bif hm with ⟨D, hm⟩ | ⟨D, hm⟩
  ·refine gT D (G_skip (N_then (G_seq (G_block (G_seq ?_)))))
   obtain ⟨an, ae, ad⟩ := gx_bind hm
   refine G_meet (fun a w' => Mem [] w w' [] ∧ Sat Try.f41.ntmps [(0, .slice c f.length h), (1, .slice d g.length i), (5, iv b), (54, .bool an)] a) ?_ ?_
   ·have hm := ae
    refine G_quiet (by kernel_rfl) (by kernel_rfl) L (zR [.slice c f.length h, iv b] [(0, .slice c f.length h), (1, .slice d g.length i), (5, iv b), (17, .slice c f.length h), (18, iv b)] ?_)
    obtain ⟨t, ah, hm⟩ := gx_bind hm
    obtain ⟨a6, n, k, ab⟩ := id W
    obtain ⟨aw, H⟩ := gxIdx_fst n ah
    refine zV (elemP c (b.toNat * 3)) (fun w_ M_ => (eI (k.mem0 M_) (len_fst n) H)) (zV (elemP c (b.toNat * 3 + 0)) (fun w_ M_ => (eF 0 (b.toNat * 3) 0 (k.mem0 M_) H)) (zV (iv t.Guest) (fun w_ M_ => (eE false 1 0 (b.toNat * 3 + 0) (k.mem0 M_) H)) (zR [.slice d g.length i, iv b] [(0, .slice c f.length h), (1, .slice d g.length i), (5, iv b), (21, iv t.Guest), (22, .slice d g.length i), (23, iv b)] ?_)))
    obtain ⟨A, ai, hm⟩ := gx_bind hm
    obtain ⟨a7, o, l, ac⟩ := id X
    obtain ⟨ax, I⟩ := gxIdx_fst o ai
    refine zV (elemP d (b.toNat * 3)) (fun w_ M_ => (eI (l.mem0 M_) (len_fst o) I)) (zV (elemP d (b.toNat * 3 + 0)) (fun w_ M_ => (eF 0 (b.toNat * 3) 0 (l.mem0 M_) I)) (zV (iv A.Guest) (fun w_ M_ => (eE false 1 0 (b.toNat * 3 + 0) (l.mem0 M_) I)) (zR [.bool (t.Guest != A.Guest), .bool (t.Guest != A.Guest)] [(0, .slice c f.length h), (1, .slice d g.length i), (5, iv b), (28, .bool (t.Guest != A.Guest))] ?_)))
    rcases gx_bif hm with ⟨E, hm⟩ | ⟨E, hm⟩
    ·refine zK 28 true E (zR [undef, undef, undef, undef, undef, undef, undef, undef, undef, undef, undef, .bool true, .bool true, undef, undef, undef, undef, undef, undef, undef, undef, undef, undef, undef, undef, .bool true] [(0, .slice c f.length h), (1, .slice d g.length i), (5, iv b), (54, .bool true)] (Z_end fun a0 S => ?_))
     obtain rfl := Option.some.inj hm
     exact N_meet fun a ha => ⟨S.pk [], ha.s⟩
    refine zK 28 false E (zR [.slice c f.length h, iv b] [(0, .slice c f.length h), (1, .slice d g.length i), (5, iv b), (28, .bool false), (29, .slice c f.length h), (30, iv b)] ?_)
    obtain ⟨q, aj, hm⟩ := gx_bind hm
    obtain ⟨ay, J⟩ := gxIdx_fst n aj
    refine zV (elemP c (b.toNat * 3)) (fun w_ M_ => (eI (k.mem0 M_) (len_fst n) J)) (zV (elemP c (b.toNat * 3 + 1)) (fun w_ M_ => (eF 1 (b.toNat * 3) 1 (k.mem0 M_) J)) (zV (iv q.Goal) (fun w_ M_ => (eE false 1 1 (b.toNat * 3 + 1) (k.mem0 M_) J)) (zR [.slice d g.length i, iv b] [(0, .slice c f.length h), (1, .slice d g.length i), (5, iv b), (28, .bool false), (33, iv q.Goal), (34, .slice d g.length i), (35, iv b)] ?_)))
    obtain ⟨u, ak, hm⟩ := gx_bind hm
    obtain ⟨az, K⟩ := gxIdx_fst o ak
    refine zV (elemP d (b.toNat * 3)) (fun w_ M_ => (eI (l.mem0 M_) (len_fst o) K)) (zV (elemP d (b.toNat * 3 + 1)) (fun w_ M_ => (eF 1 (b.toNat * 3) 1 (l.mem0 M_) K)) (zV (iv u.Goal) (fun w_ M_ => (eE false 1 1 (b.toNat * 3 + 1) (l.mem0 M_) K)) (zR [.bool (q.Goal != u.Goal), .bool (q.Goal != u.Goal), .bool (q.Goal != u.Goal)] [(0, .slice c f.length h), (1, .slice d g.length i), (5, iv b), (41, .bool (q.Goal != u.Goal))] ?_)))
    rcases gx_bif hm with ⟨F, hm⟩ | ⟨F, hm⟩
    ·refine zK 41 true F (zR [undef, undef, undef, undef, undef, undef, undef, undef, undef, undef, undef, undef, .bool true] [(0, .slice c f.length h), (1, .slice d g.length i), (5, iv b), (54, .bool true)] (Z_end fun a3 T => ?_))
     obtain rfl := Option.some.inj hm
     exact N_meet fun a ha => ⟨T.pk [], ha.s⟩
    refine zK 41 false F (zR [.slice c f.length h, iv b] [(0, .slice c f.length h), (1, .slice d g.length i), (5, iv b), (41, .bool false), (42, .slice c f.length h), (43, iv b)] ?_)
    obtain ⟨v, al, hm⟩ := gx_bind hm
    obtain ⟨j, x⟩ := gxIdx_fst n al
    refine zV (elemP c (b.toNat * 3)) (fun w_ M_ => (eI (k.mem0 M_) (len_fst n) x)) (zV (elemP c (b.toNat * 3 + 2)) (fun w_ M_ => (eF 2 (b.toNat * 3) 2 (k.mem0 M_) x)) (zV (.slice ((j 0).1) v.Gave.length ((j 0).2)) (fun w_ M_ => (eE false 1 2 (b.toNat * 3 + 2) (k.mem0 M_) x)) (zR [.slice d g.length i, iv b] [(0, .slice c f.length h), (1, .slice d g.length i), (5, iv b), (41, .bool false), (46, .slice ((j 0).1) v.Gave.length ((j 0).2)), (47, .slice d g.length i), (48, iv b)] ?_)))
    obtain ⟨B, am, hm⟩ := gx_bind hm
    obtain ⟨m, y⟩ := gxIdx_fst o am
    refine zV (elemP d (b.toNat * 3)) (fun w_ M_ => (eI (l.mem0 M_) (len_fst o) y)) (zV (elemP d (b.toNat * 3 + 2)) (fun w_ M_ => (eF 2 (b.toNat * 3) 2 (l.mem0 M_) y)) (zV (.slice ((m 0).1) B.Gave.length ((m 0).2)) (fun w_ M_ => (eE false 1 2 (b.toNat * 3 + 2) (l.mem0 M_) y)) ?_))
    obtain ⟨z, af, hm⟩ := gx_bind hm
    refine Z_call 40 #[.slice ((j 0).1) v.Gave.length ((j 0).2), .slice ((m 0).1) B.Gave.length ((m 0).2)] (.bool z) (by kernel_rfl) (fun w_ => by kernel_rfl) (fun w_ M_ => (c_l_rInts w_ v.Gave ((j 0).1) ((j 0).2) ((ab.mem0 M_).at_ x 0 ⟨Int, Gx.encI, v.Gave, (j 0).1, (j 0).2⟩ (by kernel_rfl)) B.Gave ((m 0).1) ((m 0).2) ((ac.mem0 M_).at_ y 0 ⟨Int, Gx.encI, B.Gave, (m 0).1, (m 0).2⟩ (by kernel_rfl)) af).mono fun e w2_ h_ => ⟨h_.1, M_.call0 h_.2⟩) (zR [.bool (!z), .bool (!z)] [(0, .slice c f.length h), (1, .slice d g.length i), (5, iv b), (54, .bool (!z))] (Z_end fun a4 U => ?_))
    obtain rfl := Option.some.inj hm
    exact N_meet fun a ha => ⟨U.pk [], ha.s⟩
   intro au R ⟨N, Z⟩
   refine N_use Z ?_
   have hm := ad
   refine N_then ?_
   rcases gx_bif hm with ⟨G, hm⟩ | ⟨G, hm⟩
   ·refine gT G (G_seq (G_region (wR 1 [(4, .bool false)] R (W_nil (N_then (G_ret (N_block_ret (N_then_ret (N_then_ret ?_)))))))))
    obtain rfl := Option.some.inj hm
    obtain rfl := P _ rfl
    have hm := O; simp only [Sum.elim_inr] at hm
    refine N_block_ret (N_meet_ret (N_then_ret ?_))
    obtain rfl := Option.some.inj hm
    exact N_ret [.bool false] (rC RVs_nil) (⟨rfl, N.pk []⟩)
   refine gF G (G_skip (N_block (N_then (G_region (wR 3 [(0, .slice c f.length h), (1, .slice d g.length i), (5, iv (w64 (b + 1)))] R (W_nil ?_))))))
   obtain rfl := Option.some.inj hm
   exact N_loop fun a ha => ⟨_, rfl, N.pk [], ha.s⟩
  refine gF D (G_exit (N_then_exit (N_then_exit (N_block_eq ?_))))
  obtain rfl := Option.some.inj hm
  obtain rfl := P _ rfl
  exact N_meet fun a ha => ⟨_, rfl, L.pk [], ha.s⟩
 intro av aq ⟨Q, hout_, V, aa⟩
 refine N_use aa ?_
 subst hout_
 have hm := O; simp only [Sum.elim_inl] at hm
 refine N_then (G_seq (G_region (wR 1 [(4, .bool true)] aq (W_nil (N_then (G_ret ?_))))))
 obtain rfl := Option.some.inj hm
 exact N_ret [.bool true] (rC RVs_nil) (⟨rfl, V.pk []⟩)
theorem c_l_FnBalloons (w : World) (F : List Int) (K : Option Addr) (H : Nat) (cm : rdS Gx.encU8 w F K H) {r : Bool} (hm : M.l_FnBalloons F = some r) :
  Calls Try.prog 11 #[.slice K F.length H] w fun e w' => e = .returned (.bool r) ∧ Mem [] w w' [] := by
 unfold M.l_FnBalloons at hm
 refine cE Try.func11 ?_
 have M0 := Mem.refl [] w
 refine G_seq (G_region (wR 1 [(0, .slice K F.length H)] w (W_nil (N_then (G_seq (G_seq (G_region (wR 1 [(0, .slice K F.length H), (38, .slice K F.length H)] w ?_))))))))
 obtain ⟨ga, ei, hm⟩ := gx_bind hm
 refine wC 38 #[.slice K F.length H] ((c_l_rBig w F K H (cm.mem0 M0) ei).mono ?_)
 rintro e_ cc ⟨rfl, cx⟩
 have a4 := M0.call0 cx
 refine ⟨_, rfl, ?_⟩
 refine W_nil (N_then ?_)
 rcases gx_bif hm with ⟨be, hm⟩ | ⟨be, hm⟩
 ·refine gT be (G_seq (G_region (wR 1 [(2, .bool true)] cc (W_nil (N_then (G_ret (N_then_ret ?_)))))))
  obtain rfl := Option.some.inj hm
  exact N_ret [.bool true] (rC RVs_nil) (⟨rfl, a4.pk []⟩)
 refine gF be (G_skip (N_then (G_seq (G_region (wR 1 [(41, .slice K F.length H)] cc ?_)))))
 obtain ⟨b, ej, hm⟩ := gx_bind hm
 refine wC 39 #[.slice K F.length H] ((c_s_DrawInflate cc F K H (cm.mem0 a4) ej).mono ?_)
 rintro e_ cd ⟨f, c, Y, g, d, Z, aa, rfl, I, J, cy⟩
 have a5 := a4.call cy
 refine ⟨_, rfl, ?_⟩
 refine wR 7 [(3, .slice f b.1.length c), (4, .slice g b.2.1.length d), (5, iv b.2.2)] cd (W_nil (N_then (G_seq (G_region (wR 3 [(3, .slice f b.1.length c), (4, .slice g b.2.1.length d), (5, iv b.2.2), (47, .slice f b.1.length c), (48, .slice g b.2.1.length d), (49, iv b.2.2)] cd ?_)))))
 obtain ⟨i, ek, hm⟩ := gx_bind hm
 refine wC 35 #[.slice f b.1.length c, .slice g b.2.1.length d, iv b.2.2] ((c_i_Inflate cd b.1 f c (I.rd a5 0 (by kernel_rfl)) b.2.1 g d (J.rd a5 1 (by kernel_rfl) 2 (by kernel_rfl)) b.2.2 ek).mono ?_)
 rintro e_ ce ⟨t, o, fo, u, q, fp, fq, rfl, b6, b7, cz⟩
 have a6 := a5.call cz
 refine ⟨_, rfl, ?_⟩
 refine wR 7 [(3, .slice f b.1.length c), (4, .slice g b.2.1.length d), (5, iv b.2.2), (6, .slice t i.1.length o), (7, .slice u i.2.1.length q), (8, .bool i.2.2)] ce (W_nil (N_then (G_seq (G_seq (G_region (wR 3 [(3, .slice f b.1.length c), (4, .slice g b.2.1.length d), (5, iv b.2.2), (6, .slice t i.1.length o), (7, .slice u i.2.1.length q), (8, .bool i.2.2), (55, .slice f b.1.length c), (56, .slice g b.2.1.length d), (57, iv b.2.2)] ce ?_))))))
 obtain ⟨B, el, hm⟩ := gx_bind hm
 refine wC 34 #[.slice f b.1.length c, .slice g b.2.1.length d, iv b.2.2] ((c_s_Inflate ce b.1 f c (I.rd a6 0 (by kernel_rfl)) b.2.1 g d (J.rd a6 1 (by kernel_rfl) 2 (by kernel_rfl)) b.2.2 el).mono ?_)
 rintro e_ an ⟨al, ai, gb, U, S, gc, gd, rfl, d5, d6, c0⟩
 have ap := a6.call c0
 refine ⟨_, rfl, ?_⟩
 refine wR 7 [(3, .slice f b.1.length c), (4, .slice g b.2.1.length d), (5, iv b.2.2), (6, .slice t i.1.length o), (7, .slice u i.2.1.length q), (8, .bool i.2.2), (9, .slice al B.1.length ai), (10, .slice U B.2.1.length S), (11, .bool B.2.2)] an (W_nil (N_then (G_seq ?_)))
 obtain ⟨e7, d7, d0⟩ := gx_bind hm
 refine G_meet (fun a w' => Mem [] w w' [Y, Z, aa, fo, fp, fq] ∧ Sat Try.f11.ntmps [(3, .slice f b.1.length c), (4, .slice g b.2.1.length d), (5, iv b.2.2), (6, .slice t i.1.length o), (7, .slice u i.2.1.length q), (8, .bool i.2.2), (76, .bool e7)] a) ?_ ?_
 ·have hm := d7
  refine G_region (wR 4 [(3, .slice f b.1.length c), (4, .slice g b.2.1.length d), (5, iv b.2.2), (6, .slice t i.1.length o), (7, .slice u i.2.1.length q), (8, .bool i.2.2), (9, .slice al B.1.length ai), (10, .slice U B.2.1.length S), (65, .bool (!(i.2.2 == B.2.2)))] an ?_)
  rcases gx_bif hm with ⟨bf, hm⟩ | ⟨bf, hm⟩
  ·refine wK 65 true bf (wR 11 [(3, .slice f b.1.length c), (4, .slice g b.2.1.length d), (5, iv b.2.2), (6, .slice t i.1.length o), (7, .slice u i.2.1.length q), (8, .bool i.2.2), (76, .bool true)] an (W_nil ?_))
   obtain rfl := Option.some.inj hm
   exact N_meet fun a ha => ⟨ap.pk [0, 1, 2, 3, 4, 5], ha.s⟩
  refine wK 65 false bf (wR 2 [(3, .slice f b.1.length c), (4, .slice g b.2.1.length d), (5, iv b.2.2), (6, .slice t i.1.length o), (7, .slice u i.2.1.length q), (8, .bool i.2.2), (10, .slice U B.2.1.length S), (65, .bool false), (66, .slice t i.1.length o), (67, .slice al B.1.length ai)] an ?_)
  obtain ⟨fe, em, hm⟩ := gx_bind hm
  refine wC 40 #[.slice t i.1.length o, .slice al B.1.length ai] ((c_l_rInts an i.1 t o (b6.rd ap 3 (by kernel_rfl)) B.1 al ai (d5.rd ap 6 (by kernel_rfl)) em).mono ?_)
  rintro e_ ax ⟨rfl, c1⟩
  have aq := ap.call0 c1
  refine ⟨_, rfl, ?_⟩
  refine wR 3 [(3, .slice f b.1.length c), (4, .slice g b.2.1.length d), (5, iv b.2.2), (6, .slice t i.1.length o), (7, .slice u i.2.1.length q), (8, .bool i.2.2), (10, .slice U B.2.1.length S), (71, .bool (!fe))] ax ?_
  rcases gx_bif hm with ⟨bg, hm⟩ | ⟨bg, hm⟩
  ·refine wK 71 true bg (wR 5 [(3, .slice f b.1.length c), (4, .slice g b.2.1.length d), (5, iv b.2.2), (6, .slice t i.1.length o), (7, .slice u i.2.1.length q), (8, .bool i.2.2), (76, .bool true)] ax (W_nil ?_))
   obtain rfl := Option.some.inj hm
   exact N_meet fun a ha => ⟨aq.pk [0, 1, 2, 3, 4, 5], ha.s⟩
  refine wK 71 false bg (wR 2 [(3, .slice f b.1.length c), (4, .slice g b.2.1.length d), (5, iv b.2.2), (6, .slice t i.1.length o), (7, .slice u i.2.1.length q), (8, .bool i.2.2), (71, .bool false), (72, .slice u i.2.1.length q), (73, .slice U B.2.1.length S)] ax ?_)
  obtain ⟨ff, en, hm⟩ := gx_bind hm
  refine wC 41 #[.slice u i.2.1.length q, .slice U B.2.1.length S] ((c_l_rBalloons ax i.2.1 u q (b7.rd aq 4 (by kernel_rfl) 5 (by kernel_rfl)) B.2.1 U S (d6.rd aq 7 (by kernel_rfl) 8 (by kernel_rfl)) en).mono ?_)
  rintro e_ fu ⟨rfl, c2⟩
  have dl := aq.call0 c2
  refine ⟨_, rfl, ?_⟩
  refine wR 2 [(3, .slice f b.1.length c), (4, .slice g b.2.1.length d), (5, iv b.2.2), (6, .slice t i.1.length o), (7, .slice u i.2.1.length q), (8, .bool i.2.2), (76, .bool (!ff))] fu (W_nil ?_)
  obtain rfl := Option.some.inj hm
  exact N_meet fun a ha => ⟨dl.pk [0, 1, 2, 3, 4, 5], ha.s⟩
 intro f3 ay ⟨af, dt⟩
 refine N_use dt ?_
 have hm := d0
 refine N_then ?_
 rcases gx_bif hm with ⟨bh, hm⟩ | ⟨bh, hm⟩
 ·refine gT bh (G_seq (G_region (wR 1 [(2, .bool false)] ay (W_nil (N_then (G_ret (N_then_ret ?_)))))))
  obtain rfl := Option.some.inj hm
  exact N_ret [.bool false] (rC RVs_nil) (⟨rfl, af.pk []⟩)
 refine gF bh (G_skip (N_then (G_seq (G_seq (G_region (wR 1 [(3, .slice f b.1.length c), (4, .slice g b.2.1.length d), (5, iv b.2.2), (6, .slice t i.1.length o), (7, .slice u i.2.1.length q), (8, .bool i.2.2), (77, .bool i.2.2)] ay (W_nil (N_then ?_))))))))
 obtain ⟨fc, d8, cn⟩ := gx_bind hm
 refine G_meet (fun a w' => ∃ (cq : Unit), fc = .inl cq ∧ Mem [] w w' [Y, Z, aa] ∧ Sat Try.f11.ntmps [(3, .slice f b.1.length c), (4, .slice g b.2.1.length d), (5, iv b.2.2), (8, .bool i.2.2)] a) ?_ ?_
 ·have hm := d8
  rcases gx_bif hm with ⟨bi, hm⟩ | ⟨bi, hm⟩
  ·refine gT bi (G_seq (G_region (wR 2 [(3, .slice f b.1.length c), (4, .slice g b.2.1.length d), (5, iv b.2.2), (6, .slice t i.1.length o), (7, .slice u i.2.1.length q), (8, .bool i.2.2), (79, .slice f b.1.length c), (80, .slice g b.2.1.length d)] ay ?_)))
   obtain ⟨L, eo, hm⟩ := gx_bind hm
   refine wC 21 #[.slice f b.1.length c, .slice g b.2.1.length d] ((c_i_GivenFrames ay b.1 f c (I.rd af 0 (by kernel_rfl)) b.2.1 g d (J.rd af 1 (by kernel_rfl) 2 (by kernel_rfl)) eo).mono ?_)
   rintro e_ cf ⟨rfl, c3⟩
   have a7 := af.call0 c3
   refine ⟨_, rfl, ?_⟩
   refine wR 7 [(3, .slice f b.1.length c), (4, .slice g b.2.1.length d), (5, iv b.2.2), (6, .slice t i.1.length o), (7, .slice u i.2.1.length q), (8, .bool i.2.2), (12, iv L.1), (14, .bool L.2.2)] cf (W_nil (N_then (G_seq (G_region (wR 2 [(3, .slice f b.1.length c), (4, .slice g b.2.1.length d), (5, iv b.2.2), (6, .slice t i.1.length o), (7, .slice u i.2.1.length q), (8, .bool i.2.2), (12, iv L.1), (14, .bool L.2.2), (86, .slice t i.1.length o), (87, .slice u i.2.1.length q)] cf ?_)))))
   obtain ⟨W, ep, hm⟩ := gx_bind hm
   refine wC 21 #[.slice t i.1.length o, .slice u i.2.1.length q] ((c_i_GivenFrames cf i.1 t o (b6.rd a7 3 (by kernel_rfl)) i.2.1 u q (b7.rd a7 4 (by kernel_rfl) 5 (by kernel_rfl)) ep).mono ?_)
   rintro e_ P ⟨rfl, c4⟩
   have ac := a7.call0 c4
   refine ⟨_, rfl, ?_⟩
   refine wR 7 [(3, .slice f b.1.length c), (4, .slice g b.2.1.length d), (5, iv b.2.2), (6, .slice t i.1.length o), (7, .slice u i.2.1.length q), (8, .bool i.2.2), (12, iv L.1), (14, .bool L.2.2), (15, iv W.1), (17, .bool W.2.2)] P (W_nil (N_then (G_seq ?_)))
   obtain ⟨e8, d9, d1⟩ := gx_bind hm
   refine G_meet (fun a w' => Mem [] w w' [Y, Z, aa] ∧ Sat Try.f11.ntmps [(3, .slice f b.1.length c), (4, .slice g b.2.1.length d), (5, iv b.2.2), (8, .bool i.2.2), (109, .bool e8)] a) ?_ ?_
   ·have hm := d9
    refine G_region (wR 3 [(3, .slice f b.1.length c), (4, .slice g b.2.1.length d), (5, iv b.2.2), (6, .slice t i.1.length o), (7, .slice u i.2.1.length q), (8, .bool i.2.2), (12, iv L.1), (15, iv W.1), (17, .bool W.2.2), (94, .bool (!L.2.2))] P ?_)
    rcases gx_bif hm with ⟨bj, hm⟩ | ⟨bj, hm⟩
    ·refine wK 94 true bj (wR 15 [(3, .slice f b.1.length c), (4, .slice g b.2.1.length d), (5, iv b.2.2), (8, .bool i.2.2), (109, .bool true)] P (W_nil ?_))
     obtain rfl := Option.some.inj hm
     exact N_meet fun a ha => ⟨ac.pk [0, 1, 2], ha.s⟩
    refine wK 94 false bj (wR 4 [(3, .slice f b.1.length c), (4, .slice g b.2.1.length d), (5, iv b.2.2), (6, .slice t i.1.length o), (7, .slice u i.2.1.length q), (8, .bool i.2.2), (12, iv L.1), (15, iv W.1), (98, .bool (!W.2.2))] P ?_)
    rcases gx_bif hm with ⟨bk, hm⟩ | ⟨bk, hm⟩
    ·refine wK 98 true bk (wR 11 [(3, .slice f b.1.length c), (4, .slice g b.2.1.length d), (5, iv b.2.2), (8, .bool i.2.2), (109, .bool true)] P (W_nil ?_))
     obtain rfl := Option.some.inj hm
     exact N_meet fun a ha => ⟨ac.pk [0, 1, 2], ha.s⟩
    refine wK 98 false bk (wR 6 [(3, .slice f b.1.length c), (4, .slice g b.2.1.length d), (5, iv b.2.2), (6, .slice t i.1.length o), (7, .slice u i.2.1.length q), (8, .bool i.2.2), (104, .bool (W.1 != (w64 (L.1 + 1))))] P ?_)
    rcases gx_bif hm with ⟨bl, hm⟩ | ⟨bl, hm⟩
    ·refine wK 104 true bl (wR 5 [(3, .slice f b.1.length c), (4, .slice g b.2.1.length d), (5, iv b.2.2), (8, .bool i.2.2), (109, .bool true)] P (W_nil ?_))
     obtain rfl := Option.some.inj hm
     exact N_meet fun a ha => ⟨ac.pk [0, 1, 2], ha.s⟩
    refine wK 104 false bl (wR 2 [(3, .slice f b.1.length c), (4, .slice g b.2.1.length d), (5, iv b.2.2), (8, .bool i.2.2), (104, .bool false), (105, .slice t i.1.length o), (106, .slice u i.2.1.length q)] P ?_)
    obtain ⟨fg, er, hm⟩ := gx_bind hm
    refine wC 17 #[.slice t i.1.length o, .slice u i.2.1.length q] ((c_i_AreBalloons P i.1 t o (b6.rd ac 3 (by kernel_rfl)) i.2.1 u q (b7.rd ac 4 (by kernel_rfl) 5 (by kernel_rfl)) er).mono ?_)
    rintro e_ fv ⟨rfl, c5⟩
    have dm := ac.call0 c5
    refine ⟨_, rfl, ?_⟩
    refine wR 2 [(3, .slice f b.1.length c), (4, .slice g b.2.1.length d), (5, iv b.2.2), (8, .bool i.2.2), (109, .bool (!fg))] fv (W_nil ?_)
    obtain rfl := Option.some.inj hm
    exact N_meet fun a ha => ⟨dm.pk [0, 1, 2], ha.s⟩
   intro f4 fw ⟨ck, du⟩
   refine N_use du ?_
   have hm := d1
   refine N_then ?_
   rcases gx_bif hm with ⟨bm, hm⟩ | ⟨bm, hm⟩
   ·refine gT bm (G_seq (G_region (wR 1 [(2, .bool false)] fw (W_nil (N_then (G_ret (N_meet_ret ?_)))))))
    obtain rfl := Option.some.inj hm
    have hm := cn
    simp only [Sum.elim_inr] at hm
    refine N_then_ret ?_
    obtain rfl := Option.some.inj hm
    exact N_ret [.bool false] (rC RVs_nil) (⟨rfl, ck.pk []⟩)
   refine gF bm (G_skip ?_)
   obtain rfl := Option.some.inj hm
   exact N_meet fun a ha => ⟨_, rfl, ck.pk [0, 1, 2], ha.s⟩
  refine gF bi (G_skip ?_)
  obtain rfl := Option.some.inj hm
  exact N_meet fun a ha => ⟨_, rfl, af.pk [0, 1, 2], ha.s⟩
 intro f5 ct ⟨cq, hout_, a8, dv⟩
 refine N_use dv ?_
 subst hout_
 have hm := cn
 simp only [Sum.elim_inl] at hm
 refine N_then (G_seq (G_region (wR 3 [(3, .slice f b.1.length c), (4, .slice g b.2.1.length d), (5, iv b.2.2), (8, .bool i.2.2), (111, .slice f b.1.length c), (112, .slice g b.2.1.length d), (113, iv b.2.2)] ct ?_)))
 obtain ⟨j, es, hm⟩ := gx_bind hm
 refine wC 33 #[.slice f b.1.length c, .slice g b.2.1.length d, iv b.2.2] ((c_i_Deflate ct b.1 f c (I.rd a8 0 (by kernel_rfl)) b.2.1 g d (J.rd a8 1 (by kernel_rfl) 2 (by kernel_rfl)) b.2.2 es).mono ?_)
 rintro e_ cg ⟨y, v, ge, z, x, gf, gg, rfl, b8, b9, c6⟩
 have a9 := a8.call c6
 refine ⟨_, rfl, ?_⟩
 refine wR 7 [(3, .slice f b.1.length c), (4, .slice g b.2.1.length d), (5, iv b.2.2), (8, .bool i.2.2), (18, .slice y j.1.length v), (19, .slice z j.2.1.length x), (20, .bool j.2.2)] cg (W_nil (N_then (G_seq (G_seq (G_region (wR 3 [(3, .slice f b.1.length c), (4, .slice g b.2.1.length d), (5, iv b.2.2), (8, .bool i.2.2), (18, .slice y j.1.length v), (19, .slice z j.2.1.length x), (20, .bool j.2.2), (119, .slice f b.1.length c), (120, .slice g b.2.1.length d), (121, iv b.2.2)] cg ?_))))))
 obtain ⟨C, et, hm⟩ := gx_bind hm
 refine wC 32 #[.slice f b.1.length c, .slice g b.2.1.length d, iv b.2.2] ((c_s_Deflate cg b.1 f c (I.rd a9 0 (by kernel_rfl)) b.2.1 g d (J.rd a9 1 (by kernel_rfl) 2 (by kernel_rfl)) b.2.2 et).mono ?_)
 rintro e_ ao ⟨am, aj, gh, V, T, gi, gj, rfl, ea, eb, c7⟩
 have ar := a9.call c7
 refine ⟨_, rfl, ?_⟩
 refine wR 7 [(3, .slice f b.1.length c), (4, .slice g b.2.1.length d), (5, iv b.2.2), (8, .bool i.2.2), (18, .slice y j.1.length v), (19, .slice z j.2.1.length x), (20, .bool j.2.2), (21, .slice am C.1.length aj), (22, .slice V C.2.1.length T), (23, .bool C.2.2)] ao (W_nil (N_then (G_seq ?_)))
 obtain ⟨e9, ec, d2⟩ := gx_bind hm
 refine G_meet (fun a w' => Mem [] w w' [Y, Z, aa] ∧ Sat Try.f11.ntmps [(3, .slice f b.1.length c), (4, .slice g b.2.1.length d), (5, iv b.2.2), (155, .bool e9)] a) ?_ ?_
 ·have hm := ec
  refine G_region (wR 4 [(3, .slice f b.1.length c), (4, .slice g b.2.1.length d), (5, iv b.2.2), (8, .bool i.2.2), (18, .slice y j.1.length v), (19, .slice z j.2.1.length x), (20, .bool j.2.2), (21, .slice am C.1.length aj), (22, .slice V C.2.1.length T), (129, .bool (!(j.2.2 == C.2.2)))] ao ?_)
  rcases gx_bif hm with ⟨bn, hm⟩ | ⟨bn, hm⟩
  ·refine wK 129 true bn (wR 26 [(3, .slice f b.1.length c), (4, .slice g b.2.1.length d), (5, iv b.2.2), (155, .bool true)] ao (W_nil ?_))
   obtain rfl := Option.some.inj hm
   exact N_meet fun a ha => ⟨ar.pk [0, 1, 2], ha.s⟩
  refine wK 129 false bn (wR 2 [(3, .slice f b.1.length c), (4, .slice g b.2.1.length d), (5, iv b.2.2), (8, .bool i.2.2), (18, .slice y j.1.length v), (19, .slice z j.2.1.length x), (20, .bool j.2.2), (22, .slice V C.2.1.length T), (129, .bool false), (130, .slice y j.1.length v), (131, .slice am C.1.length aj)] ao ?_)
  obtain ⟨fh, eu, hm⟩ := gx_bind hm
  refine wC 40 #[.slice y j.1.length v, .slice am C.1.length aj] ((c_l_rInts ao j.1 y v (b8.rd ar 3 (by kernel_rfl)) C.1 am aj (ea.rd ar 6 (by kernel_rfl)) eu).mono ?_)
  rintro e_ az ⟨rfl, c8⟩
  have au := ar.call0 c8
  refine ⟨_, rfl, ?_⟩
  refine wR 3 [(3, .slice f b.1.length c), (4, .slice g b.2.1.length d), (5, iv b.2.2), (8, .bool i.2.2), (18, .slice y j.1.length v), (19, .slice z j.2.1.length x), (20, .bool j.2.2), (22, .slice V C.2.1.length T), (135, .bool (!fh))] az ?_
  rcases gx_bif hm with ⟨bo, hm⟩ | ⟨bo, hm⟩
  ·refine wK 135 true bo (wR 20 [(3, .slice f b.1.length c), (4, .slice g b.2.1.length d), (5, iv b.2.2), (155, .bool true)] az (W_nil ?_))
   obtain rfl := Option.some.inj hm
   exact N_meet fun a ha => ⟨au.pk [0, 1, 2], ha.s⟩
  refine wK 135 false bo (wR 2 [(3, .slice f b.1.length c), (4, .slice g b.2.1.length d), (5, iv b.2.2), (8, .bool i.2.2), (18, .slice y j.1.length v), (19, .slice z j.2.1.length x), (20, .bool j.2.2), (135, .bool false), (136, .slice z j.2.1.length x), (137, .slice V C.2.1.length T)] az ?_)
  obtain ⟨fi, ev, hm⟩ := gx_bind hm
  refine wC 41 #[.slice z j.2.1.length x, .slice V C.2.1.length T] ((c_l_rBalloons az j.2.1 z x (b9.rd au 4 (by kernel_rfl) 5 (by kernel_rfl)) C.2.1 V T (eb.rd au 7 (by kernel_rfl) 8 (by kernel_rfl)) ev).mono ?_)
  rintro e_ E ⟨rfl, c9⟩
  have G := au.call0 c9
  refine ⟨_, rfl, ?_⟩
  refine wR 3 [(3, .slice f b.1.length c), (4, .slice g b.2.1.length d), (5, iv b.2.2), (8, .bool i.2.2), (18, .slice y j.1.length v), (19, .slice z j.2.1.length x), (20, .bool j.2.2), (141, .bool (!fi))] E ?_
  rcases gx_bif hm with ⟨bp, hm⟩ | ⟨bp, hm⟩
  ·refine wK 141 true bp (wR 14 [(3, .slice f b.1.length c), (4, .slice g b.2.1.length d), (5, iv b.2.2), (155, .bool true)] E (W_nil ?_))
   obtain rfl := Option.some.inj hm
   exact N_meet fun a ha => ⟨G.pk [0, 1, 2], ha.s⟩
  refine wK 141 false bp (wR 2 [(3, .slice f b.1.length c), (4, .slice g b.2.1.length d), (5, iv b.2.2), (18, .slice y j.1.length v), (19, .slice z j.2.1.length x), (20, .bool j.2.2), (141, .bool false), (143, .bool i.2.2)] E ?_)
  rcases gx_bif hm with ⟨bq, hm⟩ | ⟨bq, hm⟩
  ·refine wK 143 true bq (wR 4 [(3, .slice f b.1.length c), (4, .slice g b.2.1.length d), (5, iv b.2.2), (18, .slice y j.1.length v), (19, .slice z j.2.1.length x), (20, .bool j.2.2), (147, .bool j.2.2)] E ?_)
   rcases gx_bif hm with ⟨br, hm⟩ | ⟨br, hm⟩
   ·refine wK 147 true br (wR 8 [(3, .slice f b.1.length c), (4, .slice g b.2.1.length d), (5, iv b.2.2), (155, .bool true)] E (W_nil ?_))
    obtain rfl := Option.some.inj hm
    exact N_meet fun a ha => ⟨G.pk [0, 1, 2], ha.s⟩
   refine wK 147 false br (wR 2 [(3, .slice f b.1.length c), (4, .slice g b.2.1.length d), (5, iv b.2.2), (18, .slice y j.1.length v), (19, .slice z j.2.1.length x), (147, .bool false), (149, .bool j.2.2)] E ?_)
   rcases gx_bif hm with ⟨bs, hm⟩ | ⟨bs, hm⟩
   ·refine wK 149 true bs (wR 2 [(3, .slice f b.1.length c), (4, .slice g b.2.1.length d), (5, iv b.2.2), (147, .bool false), (149, .bool true), (150, .slice y j.1.length v), (151, .slice z j.2.1.length x)] E ?_)
    obtain ⟨fj, ew, hm⟩ := gx_bind hm
    refine wC 17 #[.slice y j.1.length v, .slice z j.2.1.length x] ((c_i_AreBalloons E j.1 y v (b8.rd G 3 (by kernel_rfl)) j.2.1 z x (b9.rd G 4 (by kernel_rfl) 5 (by kernel_rfl)) ew).mono ?_)
    rintro e_ fx ⟨rfl, da⟩
    have dn := G.call0 da
    refine ⟨_, rfl, ?_⟩
    refine wR 3 [(3, .slice f b.1.length c), (4, .slice g b.2.1.length d), (5, iv b.2.2), (155, .bool (!fj))] fx (W_nil ?_)
    obtain rfl := Option.some.inj hm
    exact N_meet fun a ha => ⟨dn.pk [0, 1, 2], ha.s⟩
   refine wK 149 false bs (wR 6 [(3, .slice f b.1.length c), (4, .slice g b.2.1.length d), (5, iv b.2.2), (155, .bool false)] E (W_nil ?_))
   obtain rfl := Option.some.inj hm
   exact N_meet fun a ha => ⟨G.pk [0, 1, 2], ha.s⟩
  refine wK 143 false bq (wR 6 [(3, .slice f b.1.length c), (4, .slice g b.2.1.length d), (5, iv b.2.2), (18, .slice y j.1.length v), (19, .slice z j.2.1.length x), (147, .bool false), (149, .bool j.2.2)] E ?_)
  rcases gx_bif hm with ⟨bt, hm⟩ | ⟨bt, hm⟩
  ·refine wK 149 true bt (wR 2 [(3, .slice f b.1.length c), (4, .slice g b.2.1.length d), (5, iv b.2.2), (147, .bool false), (149, .bool true), (150, .slice y j.1.length v), (151, .slice z j.2.1.length x)] E ?_)
   obtain ⟨fk, ex, hm⟩ := gx_bind hm
   refine wC 17 #[.slice y j.1.length v, .slice z j.2.1.length x] ((c_i_AreBalloons E j.1 y v (b8.rd G 3 (by kernel_rfl)) j.2.1 z x (b9.rd G 4 (by kernel_rfl) 5 (by kernel_rfl)) ex).mono ?_)
   rintro e_ fy ⟨rfl, db⟩
   have dp := G.call0 db
   refine ⟨_, rfl, ?_⟩
   refine wR 3 [(3, .slice f b.1.length c), (4, .slice g b.2.1.length d), (5, iv b.2.2), (155, .bool (!fk))] fy (W_nil ?_)
   obtain rfl := Option.some.inj hm
   exact N_meet fun a ha => ⟨dp.pk [0, 1, 2], ha.s⟩
  refine wK 149 false bt (wR 6 [(3, .slice f b.1.length c), (4, .slice g b.2.1.length d), (5, iv b.2.2), (155, .bool false)] E (W_nil ?_))
  obtain rfl := Option.some.inj hm
  exact N_meet fun a ha => ⟨G.pk [0, 1, 2], ha.s⟩
 intro f6 ch ⟨av, dw⟩
 refine N_use dw ?_
 have hm := d2
 refine N_then ?_
 rcases gx_bif hm with ⟨bu, hm⟩ | ⟨bu, hm⟩
 ·refine gT bu (G_seq (G_region (wR 1 [(2, .bool false)] ch (W_nil (N_then (G_ret (N_then_ret ?_)))))))
  obtain rfl := Option.some.inj hm
  exact N_ret [.bool false] (rC RVs_nil) (⟨rfl, av.pk []⟩)
 refine gF bu (G_skip (N_then (G_seq (G_region (wR 3 [(3, .slice f b.1.length c), (4, .slice g b.2.1.length d), (5, iv b.2.2), (157, .slice f b.1.length c), (158, .slice g b.2.1.length d), (159, iv b.2.2)] ch ?_)))))
 obtain ⟨h, ey, hm⟩ := gx_bind hm
 refine wC 28 #[.slice f b.1.length c, .slice g b.2.1.length d, iv b.2.2] ((c_i_TakeGiven ch b.1 f c (I.rd av 0 (by kernel_rfl)) b.2.1 g d (J.rd av 1 (by kernel_rfl) 2 (by kernel_rfl)) b.2.2 ey).mono ?_)
 rintro e_ ci ⟨k, l, fr, n, m, fs, ft, rfl, ak, ca, dc⟩
 have ba := av.call dc
 refine ⟨_, rfl, ?_⟩
 refine wR 9 [(3, .slice f b.1.length c), (4, .slice g b.2.1.length d), (5, iv b.2.2), (24, .slice k h.1.length l), (25, .slice n h.2.1.length m), (26, iv h.2.2.1), (27, .bool h.2.2.2)] ci (W_nil (N_then (G_seq (G_seq (G_region (wR 3 [(3, .slice f b.1.length c), (4, .slice g b.2.1.length d), (5, iv b.2.2), (24, .slice k h.1.length l), (25, .slice n h.2.1.length m), (26, iv h.2.2.1), (27, .bool h.2.2.2), (166, .slice f b.1.length c), (167, .slice g b.2.1.length d), (168, iv b.2.2)] ci ?_))))))
 obtain ⟨A, ez, hm⟩ := gx_bind hm
 refine wC 27 #[.slice f b.1.length c, .slice g b.2.1.length d, iv b.2.2] ((c_s_TakeGiven ci b.1 f c (I.rd ba 0 (by kernel_rfl)) b.2.1 g d (J.rd ba 1 (by kernel_rfl) 2 (by kernel_rfl)) b.2.2 ez).mono ?_)
 rintro e_ ab ⟨ae, ad, gk, R, Q, gl, gm, rfl, ed, ee, dd⟩
 have ag := ba.call dd
 refine ⟨_, rfl, ?_⟩
 refine wR 9 [(3, .slice f b.1.length c), (4, .slice g b.2.1.length d), (5, iv b.2.2), (24, .slice k h.1.length l), (25, .slice n h.2.1.length m), (26, iv h.2.2.1), (27, .bool h.2.2.2), (28, .slice ae A.1.length ad), (29, .slice R A.2.1.length Q), (30, iv A.2.2.1), (31, .bool A.2.2.2)] ab (W_nil (N_then (G_seq ?_)))
 obtain ⟨fa, ef, d3⟩ := gx_bind hm
 refine G_meet (fun a w' => Mem [] w w' [Y, Z, aa, fr, fs, ft] ∧ Sat Try.f11.ntmps [(3, .slice f b.1.length c), (4, .slice g b.2.1.length d), (5, iv b.2.2), (24, .slice k h.1.length l), (25, .slice n h.2.1.length m), (26, iv h.2.2.1), (27, .bool h.2.2.2), (193, .bool fa)] a) ?_ ?_
 ·have hm := ef
  refine G_region (wR 4 [(3, .slice f b.1.length c), (4, .slice g b.2.1.length d), (5, iv b.2.2), (24, .slice k h.1.length l), (25, .slice n h.2.1.length m), (26, iv h.2.2.1), (27, .bool h.2.2.2), (28, .slice ae A.1.length ad), (29, .slice R A.2.1.length Q), (30, iv A.2.2.1), (177, .bool (!(h.2.2.2 == A.2.2.2)))] ab ?_)
  rcases gx_bif hm with ⟨bv, hm⟩ | ⟨bv, hm⟩
  ·refine wK 177 true bv (wR 16 [(3, .slice f b.1.length c), (4, .slice g b.2.1.length d), (5, iv b.2.2), (24, .slice k h.1.length l), (25, .slice n h.2.1.length m), (26, iv h.2.2.1), (27, .bool h.2.2.2), (193, .bool true)] ab (W_nil ?_))
   obtain rfl := Option.some.inj hm
   exact N_meet fun a ha => ⟨ag.pk [0, 1, 2, 3, 4, 5], ha.s⟩
  refine wK 177 false bv (wR 5 [(3, .slice f b.1.length c), (4, .slice g b.2.1.length d), (5, iv b.2.2), (24, .slice k h.1.length l), (25, .slice n h.2.1.length m), (26, iv h.2.2.1), (27, .bool h.2.2.2), (28, .slice ae A.1.length ad), (29, .slice R A.2.1.length Q), (182, .bool (h.2.2.1 != A.2.2.1))] ab ?_)
  rcases gx_bif hm with ⟨bw, hm⟩ | ⟨bw, hm⟩
  ·refine wK 182 true bw (wR 11 [(3, .slice f b.1.length c), (4, .slice g b.2.1.length d), (5, iv b.2.2), (24, .slice k h.1.length l), (25, .slice n h.2.1.length m), (26, iv h.2.2.1), (27, .bool h.2.2.2), (193, .bool true)] ab (W_nil ?_))
   obtain rfl := Option.some.inj hm
   exact N_meet fun a ha => ⟨ag.pk [0, 1, 2, 3, 4, 5], ha.s⟩
  refine wK 182 false bw (wR 2 [(3, .slice f b.1.length c), (4, .slice g b.2.1.length d), (5, iv b.2.2), (24, .slice k h.1.length l), (25, .slice n h.2.1.length m), (26, iv h.2.2.1), (27, .bool h.2.2.2), (29, .slice R A.2.1.length Q), (182, .bool false), (183, .slice k h.1.length l), (184, .slice ae A.1.length ad)] ab ?_)
  obtain ⟨fl, e0, hm⟩ := gx_bind hm
  refine wC 40 #[.slice k h.1.length l, .slice ae A.1.length ad] ((c_l_rInts ab h.1 k l (ak.rd ag 3 (by kernel_rfl)) A.1 ae ad (ed.rd ag 6 (by kernel_rfl)) e0).mono ?_)
  rintro e_ a0 ⟨rfl, de⟩
  have aw := ag.call0 de
  refine ⟨_, rfl, ?_⟩
  refine wR 3 [(3, .slice f b.1.length c), (4, .slice g b.2.1.length d), (5, iv b.2.2), (24, .slice k h.1.length l), (25, .slice n h.2.1.length m), (26, iv h.2.2.1), (27, .bool h.2.2.2), (29, .slice R A.2.1.length Q), (188, .bool (!fl))] a0 ?_
  rcases gx_bif hm with ⟨bx, hm⟩ | ⟨bx, hm⟩
  ·refine wK 188 true bx (wR 5 [(3, .slice f b.1.length c), (4, .slice g b.2.1.length d), (5, iv b.2.2), (24, .slice k h.1.length l), (25, .slice n h.2.1.length m), (26, iv h.2.2.1), (27, .bool h.2.2.2), (193, .bool true)] a0 (W_nil ?_))
   obtain rfl := Option.some.inj hm
   exact N_meet fun a ha => ⟨aw.pk [0, 1, 2, 3, 4, 5], ha.s⟩
  refine wK 188 false bx (wR 2 [(3, .slice f b.1.length c), (4, .slice g b.2.1.length d), (5, iv b.2.2), (24, .slice k h.1.length l), (25, .slice n h.2.1.length m), (26, iv h.2.2.1), (27, .bool h.2.2.2), (188, .bool false), (189, .slice n h.2.1.length m), (190, .slice R A.2.1.length Q)] a0 ?_)
  obtain ⟨fm, e1, hm⟩ := gx_bind hm
  refine wC 41 #[.slice n h.2.1.length m, .slice R A.2.1.length Q] ((c_l_rBalloons a0 h.2.1 n m (ca.rd aw 4 (by kernel_rfl) 5 (by kernel_rfl)) A.2.1 R Q (ee.rd aw 7 (by kernel_rfl) 8 (by kernel_rfl)) e1).mono ?_)
  rintro e_ fz ⟨rfl, df⟩
  have dq := aw.call0 df
  refine ⟨_, rfl, ?_⟩
  refine wR 2 [(3, .slice f b.1.length c), (4, .slice g b.2.1.length d), (5, iv b.2.2), (24, .slice k h.1.length l), (25, .slice n h.2.1.length m), (26, iv h.2.2.1), (27, .bool h.2.2.2), (193, .bool (!fm))] fz (W_nil ?_)
  obtain rfl := Option.some.inj hm
  exact N_meet fun a ha => ⟨dq.pk [0, 1, 2, 3, 4, 5], ha.s⟩
 intro f7 a3 ⟨ah, dx⟩
 refine N_use dx ?_
 have hm := d3
 refine N_then ?_
 rcases gx_bif hm with ⟨bz, hm⟩ | ⟨bz, hm⟩
 ·refine gT bz (G_seq (G_region (wR 1 [(2, .bool false)] a3 (W_nil (N_then (G_ret (N_then_ret ?_)))))))
  obtain rfl := Option.some.inj hm
  exact N_ret [.bool false] (rC RVs_nil) (⟨rfl, ah.pk []⟩)
 refine gF bz (G_skip (N_then (G_seq (G_seq (G_region (wR 1 [(3, .slice f b.1.length c), (4, .slice g b.2.1.length d), (5, iv b.2.2), (24, .slice k h.1.length l), (25, .slice n h.2.1.length m), (26, iv h.2.2.1), (194, .bool h.2.2.2)] a3 (W_nil (N_then ?_))))))))
 obtain ⟨fd, eg, co⟩ := gx_bind hm
 refine G_meet (fun a w' => ∃ (cr : Unit), fd = .inl cr ∧ Mem [] w w' [Y, Z, aa] ∧ Sat Try.f11.ntmps [(3, .slice f b.1.length c), (4, .slice g b.2.1.length d)] a) ?_ ?_
 ·have hm := eg
  rcases gx_bif hm with ⟨b0, hm⟩ | ⟨b0, hm⟩
  ·refine gT b0 (G_seq (G_region (wR 2 [(3, .slice f b.1.length c), (4, .slice g b.2.1.length d), (5, iv b.2.2), (24, .slice k h.1.length l), (25, .slice n h.2.1.length m), (26, iv h.2.2.1), (196, .slice f b.1.length c), (197, .slice g b.2.1.length d)] a3 ?_)))
   obtain ⟨N, e2, hm⟩ := gx_bind hm
   refine wC 21 #[.slice f b.1.length c, .slice g b.2.1.length d] ((c_i_GivenFrames a3 b.1 f c (I.rd ah 0 (by kernel_rfl)) b.2.1 g d (J.rd ah 1 (by kernel_rfl) 2 (by kernel_rfl)) e2).mono ?_)
   rintro e_ cj ⟨rfl, dg⟩
   have bb := ah.call0 dg
   refine ⟨_, rfl, ?_⟩
   refine wR 7 [(3, .slice f b.1.length c), (4, .slice g b.2.1.length d), (5, iv b.2.2), (24, .slice k h.1.length l), (25, .slice n h.2.1.length m), (26, iv h.2.2.1), (32, iv N.1), (34, .bool N.2.2)] cj (W_nil (N_then (G_seq (G_region (wR 2 [(3, .slice f b.1.length c), (4, .slice g b.2.1.length d), (5, iv b.2.2), (24, .slice k h.1.length l), (25, .slice n h.2.1.length m), (26, iv h.2.2.1), (32, iv N.1), (34, .bool N.2.2), (203, .slice k h.1.length l), (204, .slice n h.2.1.length m)] cj ?_)))))
   obtain ⟨X, e3, hm⟩ := gx_bind hm
   refine wC 21 #[.slice k h.1.length l, .slice n h.2.1.length m] ((c_i_GivenFrames cj h.1 k l (ak.rd bb 3 (by kernel_rfl)) h.2.1 n m (ca.rd bb 4 (by kernel_rfl) 5 (by kernel_rfl)) e3).mono ?_)
   rintro e_ D ⟨rfl, dh⟩
   have O := bb.call0 dh
   refine ⟨_, rfl, ?_⟩
   refine wR 7 [(3, .slice f b.1.length c), (4, .slice g b.2.1.length d), (5, iv b.2.2), (24, .slice k h.1.length l), (25, .slice n h.2.1.length m), (26, iv h.2.2.1), (32, iv N.1), (34, .bool N.2.2), (35, iv X.1), (37, .bool X.2.2)] D (W_nil (N_then (G_seq ?_)))
   obtain ⟨fb, eh, d4⟩ := gx_bind hm
   refine G_meet (fun a w' => Mem [] w w' [Y, Z, aa] ∧ Sat Try.f11.ntmps [(3, .slice f b.1.length c), (4, .slice g b.2.1.length d), (234, .bool fb)] a) ?_ ?_
   ·have hm := eh
    refine G_region (wR 3 [(3, .slice f b.1.length c), (4, .slice g b.2.1.length d), (5, iv b.2.2), (24, .slice k h.1.length l), (25, .slice n h.2.1.length m), (26, iv h.2.2.1), (32, iv N.1), (35, iv X.1), (37, .bool X.2.2), (211, .bool (!N.2.2))] D ?_)
    rcases gx_bif hm with ⟨b1, hm⟩ | ⟨b1, hm⟩
    ·refine wK 211 true b1 (wR 23 [(3, .slice f b.1.length c), (4, .slice g b.2.1.length d), (234, .bool true)] D (W_nil ?_))
     obtain rfl := Option.some.inj hm
     exact N_meet fun a ha => ⟨O.pk [0, 1, 2], ha.s⟩
    refine wK 211 false b1 (wR 4 [(3, .slice f b.1.length c), (4, .slice g b.2.1.length d), (5, iv b.2.2), (24, .slice k h.1.length l), (25, .slice n h.2.1.length m), (26, iv h.2.2.1), (32, iv N.1), (35, iv X.1), (215, .bool (!X.2.2))] D ?_)
    rcases gx_bif hm with ⟨b2, hm⟩ | ⟨b2, hm⟩
    ·refine wK 215 true b2 (wR 19 [(3, .slice f b.1.length c), (4, .slice g b.2.1.length d), (234, .bool true)] D (W_nil ?_))
     obtain rfl := Option.some.inj hm
     exact N_meet fun a ha => ⟨O.pk [0, 1, 2], ha.s⟩
    refine wK 215 false b2 (wR 6 [(3, .slice f b.1.length c), (4, .slice g b.2.1.length d), (5, iv b.2.2), (24, .slice k h.1.length l), (25, .slice n h.2.1.length m), (26, iv h.2.2.1), (221, .bool (X.1 != (w64 (N.1 - 1))))] D ?_)
    rcases gx_bif hm with ⟨b3, hm⟩ | ⟨b3, hm⟩
    ·refine wK 221 true b3 (wR 13 [(3, .slice f b.1.length c), (4, .slice g b.2.1.length d), (234, .bool true)] D (W_nil ?_))
     obtain rfl := Option.some.inj hm
     exact N_meet fun a ha => ⟨O.pk [0, 1, 2], ha.s⟩
    refine wK 221 false b3 (wR 2 [(3, .slice f b.1.length c), (4, .slice g b.2.1.length d), (5, iv b.2.2), (24, .slice k h.1.length l), (25, .slice n h.2.1.length m), (221, .bool false), (222, .slice k h.1.length l), (223, iv h.2.2.1)] D ?_)
    obtain ⟨cw, cp, hm⟩ := gx_bind hm
    refine wV (elemP k (h.2.2.1.toNat * 1)) D (eI (ak.rd O 3 (by kernel_rfl)) rfl cp) (wV (iv cw) D (eE false 1 0 (h.2.2.1.toNat * 1) (ak.rd O 3 (by kernel_rfl)) cp) (wR 4 [(3, .slice f b.1.length c), (4, .slice g b.2.1.length d), (24, .slice k h.1.length l), (25, .slice n h.2.1.length m), (229, .bool (cw != b.2.2))] D ?_))
    rcases gx_bif hm with ⟨b4, hm⟩ | ⟨b4, hm⟩
    ·refine wK 229 true b4 (wR 5 [(3, .slice f b.1.length c), (4, .slice g b.2.1.length d), (234, .bool true)] D (W_nil ?_))
     obtain rfl := Option.some.inj hm
     exact N_meet fun a ha => ⟨O.pk [0, 1, 2], ha.s⟩
    refine wK 229 false b4 (wR 2 [(3, .slice f b.1.length c), (4, .slice g b.2.1.length d), (229, .bool false), (230, .slice k h.1.length l), (231, .slice n h.2.1.length m)] D ?_)
    obtain ⟨fn, e4, hm⟩ := gx_bind hm
    refine wC 17 #[.slice k h.1.length l, .slice n h.2.1.length m] ((c_i_AreBalloons D h.1 k l (ak.rd O 3 (by kernel_rfl)) h.2.1 n m (ca.rd O 4 (by kernel_rfl) 5 (by kernel_rfl)) e4).mono ?_)
    rintro e_ f0 ⟨rfl, di⟩
    have dr := O.call0 di
    refine ⟨_, rfl, ?_⟩
    refine wR 2 [(3, .slice f b.1.length c), (4, .slice g b.2.1.length d), (234, .bool (!fn))] f0 (W_nil ?_)
    obtain rfl := Option.some.inj hm
    exact N_meet fun a ha => ⟨dr.pk [0, 1, 2], ha.s⟩
   intro f8 f1 ⟨cl, dy⟩
   refine N_use dy ?_
   have hm := d4
   refine N_then ?_
   rcases gx_bif hm with ⟨b5, hm⟩ | ⟨b5, hm⟩
   ·refine gT b5 (G_seq (G_region (wR 1 [(2, .bool false)] f1 (W_nil (N_then (G_ret (N_meet_ret ?_)))))))
    obtain rfl := Option.some.inj hm
    have hm := co
    simp only [Sum.elim_inr] at hm
    refine N_then_ret ?_
    obtain rfl := Option.some.inj hm
    exact N_ret [.bool false] (rC RVs_nil) (⟨rfl, cl.pk []⟩)
   refine gF b5 (G_skip ?_)
   obtain rfl := Option.some.inj hm
   exact N_meet fun a ha => ⟨_, rfl, cl.pk [0, 1, 2], ha.s⟩
  refine gF b0 (G_skip ?_)
  obtain rfl := Option.some.inj hm
  exact N_meet fun a ha => ⟨_, rfl, ah.pk [0, 1, 2], ha.s⟩
 intro f9 cu ⟨cr, hout_, bc, dz⟩
 refine N_use dz ?_
 subst hout_
 have hm := co
 simp only [Sum.elim_inl] at hm
 refine N_then (G_seq (G_region (wR 2 [(3, .slice f b.1.length c), (4, .slice g b.2.1.length d), (235, .slice f b.1.length c), (236, .slice g b.2.1.length d)] cu ?_)))
 obtain ⟨cb, e5, hm⟩ := gx_bind hm
 refine wC 17 #[.slice f b.1.length c, .slice g b.2.1.length d] ((c_i_AreBalloons cu b.1 f c (I.rd bc 0 (by kernel_rfl)) b.2.1 g d (J.rd bc 1 (by kernel_rfl) 2 (by kernel_rfl)) e5).mono ?_)
 rintro e_ cv ⟨rfl, dj⟩
 have bd := bc.call0 dj
 refine ⟨_, rfl, ?_⟩
 refine wR 2 [(237, .bool cb), (238, .slice f b.1.length c), (239, .slice g b.2.1.length d)] cv ?_
 obtain ⟨cs, e6, hm⟩ := gx_bind hm
 refine wC 14 #[.slice f b.1.length c, .slice g b.2.1.length d] ((c_s_AreBalloons cv b.1 f c (I.rd bd 0 (by kernel_rfl)) b.2.1 g d (J.rd bd 1 (by kernel_rfl) 2 (by kernel_rfl)) e6).mono ?_)
 rintro e_ f2 ⟨rfl, dk⟩
 have ds := bd.call0 dk
 refine ⟨_, rfl, ?_⟩
 refine wR 2 [(2, .bool (cb == cs))] f2 (W_nil (N_then (G_ret ?_)))
 obtain rfl := Option.some.inj hm
 exact N_ret [.bool (cb == cs)] (rC RVs_nil) (⟨rfl, ds.pk []⟩)
theorem c_s_DrawSettleGuest (w : World) (b : List Int) (d : Option Addr) (c : Nat) (x : rdS Gx.encU8 w b d c) {r : (List Int) × (List Balloon) × Int} (hm : M.s_DrawSettleGuest b = some r) :
  Calls Try.prog 42 #[.slice d b.length c] w fun e w' => ∃ (l : Option Addr) (j : Nat) (n : Seg), ∃ (m : Option Addr) (k : Nat) (o : Seg) (q : Seg), e = .returned (.tuple #[.slice l r.1.length j, .slice m r.2.1.length k, iv r.2.2]) ∧ ownS Gx.encI r.1 l j n ∧ ownD deepBalloon r.2.1 m k o q ∧ Mem [] w w' [n, o, q] := by
 unfold M.s_DrawSettleGuest at hm
 refine cE Try.func42 ?_
 have M0 := Mem.refl [] w
 refine G_seq (G_region (wR 3 [(0, .slice d b.length c)] w (W_nil (N_then (G_seq (G_region (wR 1 [(9, .slice d b.length c)] w ?_)))))))
 obtain ⟨a, A, hm⟩ := gx_bind hm
 refine wC 39 #[.slice d b.length c] ((c_s_DrawInflate w b d c (x.mem0 M0) A).mono ?_)
 rintro e_ t ⟨h, f, B, i, g, C, D, rfl, y, z, u⟩
 have v := M0.call u
 refine ⟨_, rfl, ?_⟩
 refine wR 7 [(5, .slice h a.1.length f), (6, .slice i a.2.1.length g), (7, iv a.2.2)] t (W_nil (N_then (G_seq (G_region (wR 6 [(2, .slice h a.1.length f), (3, .slice i a.2.1.length g), (4, iv a.2.2)] t (W_nil (N_then (G_ret ?_))))))))
 obtain rfl := Option.some.inj hm
 exact N_ret [.slice h a.1.length f, .slice i a.2.1.length g, iv a.2.2] (rC (rC (rC RVs_nil))) (⟨h, f, B, i, g, C, D, rfl, y, z, v.pk [0, 1, 2]⟩)
theorem c_s_DrawShareGoals (w : World) (f : List Int) (h : Option Addr) (g : Nat) (k : rdS Gx.encU8 w f h g) {r : (List Int) × (List Balloon) × Int} (hm : M.s_DrawShareGoals f = some r) :
  Calls Try.prog 43 #[.slice h f.length g] w fun e w' => ∃ (H : Option Addr) (F : Nat) (K : Seg), ∃ (I : Option Addr) (G : Nat) (L : Seg) (N : Seg), e = .returned (.tuple #[.slice H r.1.length F, .slice I r.2.1.length G, iv r.2.2]) ∧ ownS Gx.encI r.1 H F K ∧ ownD deepBalloon r.2.1 I G L N ∧ Mem [] w w' [K, L, N] := by
 unfold M.s_DrawShareGoals at hm
 refine cE Try.func43 ?_
 have M0 := Mem.refl [] w
 refine G_seq (G_region (wR 3 [(0, .slice h f.length g)] w (W_nil (N_then (G_seq (G_region (wR 2 [(9, .agg #[.slice h f.length g, iv 0, .int .u64 0])] w (wN (.cells ⟨[.slice h f.length g, iv 0, .int .u64 0]⟩ 78 (0, 0)) M0 ?_))))))))
 intro a A q
 refine wR 1 [(5, pB a 0)] A (W_nil (N_then (G_seq (G_region (wR 1 [(5, pB a 0), (11, pB a 0)] A ?_)))))
 obtain ⟨b, X, hm⟩ := gx_bind hm
 refine wC 72 #[pB a 0] ((c_s_l1Cur_owners A (⟨f, 0, 0⟩ : l1Cur) h g (k.mem0 q) a (q.hasPick [0]) (q.nodupPick [0] (by kernel_rfl)) (apartX.old0 k q [0]) X).mono ?_)
 rintro e_ B ⟨d, c, ab, rfl, x, Q⟩
 have m := q.callF' [0] [] (by kernel_rfl) Q
 refine ⟨_, rfl, ?_⟩
 refine wR 1 [(5, pB a 0), (6, .slice d b.1.length c)] B (W_nil (N_then (G_seq (G_region (wR 2 [(5, pB a 0), (6, .slice d b.1.length c), (13, pB a 0), (14, .slice d b.1.length c)] B ?_)))))
 obtain ⟨l, Y, hm⟩ := gx_bind hm
 refine wC 73 #[pB a 0, .slice d b.1.length c] ((c_s_l1Cur_balloons B (⟨f, b.2.1, b.2.2⟩ : l1Cur) h g (k.mem0 m) a b.1 d c (x.rd m 1 (by kernel_rfl)) (m.hasPick [0]) (m.nodupPick [0] (by kernel_rfl)) (apartX.old0 k m [0]) (apartX.own x m 1 (by kernel_rfl) [0] (by kernel_rfl)) Y).mono ?_)
 rintro e_ O ⟨o, n, ac, ad, rfl, W, R⟩
 have U := m.callF' [0] [1] (by kernel_rfl) R
 refine ⟨_, rfl, ?_⟩
 refine wR 1 [(5, pB a 0), (6, .slice d b.1.length c), (7, .slice o l.1.length n)] O (W_nil (N_then (G_seq (G_region (wR 3 [(5, pB a 0), (16, .slice d b.1.length c), (17, .slice o l.1.length n), (18, pB a 0)] O (wL (E := Gx.encI) [0, 1, 2, 4, 16, (-1), 17] 7 [iv 0, iv 1, iv 2, iv 4, iv 16, iv (-1), iv 17] 3 U ?_))))))
 intro u j af P y t
 refine wR 1 [(16, .slice d b.1.length c), (17, .slice o l.1.length n), (18, pB a 0), (19, .slice u [0, 1, 2, 4, 16, (-1), 17].length j), (20, pB a 0)] P ?_
 obtain ⟨v, Z, hm⟩ := gx_bind hm
 refine wC 76 #[pB a 0, iv 24] ((c_s_l1Cur_pick P (⟨f, l.2.1, l.2.2⟩ : l1Cur) h g (k.mem0 t) a 24 (t.hasPick [1]) (t.nodupPick [1] (by kernel_rfl)) (apartX.old0 k t [1]) Z).mono ?_)
 rintro e_ C ⟨rfl, S⟩
 have i := t.callF' [1] [0, 2, 3, 4] (by kernel_rfl) S
 refine ⟨_, rfl, ?_⟩
 refine wR 2 [(16, .slice d b.1.length c), (17, .slice o l.1.length n), (18, pB a 0), (19, .slice u [0, 1, 2, 4, 16, (-1), 17].length j), (23, iv (w64 (5 + (w64 (v.1.tdiv 11)))))] C ?_
 obtain ⟨D, z, hm⟩ := gx_bind hm
 refine wV (.slice (subP u (0 : Int).toNat j 1) D.length (j - (0 : Int).toNat)) C (E_slice (E := Gx.encI) _ _ _ _ [0, 1, 2, 4, 16, (-1), 17].length 0 (w64 (5 + (w64 (v.1.tdiv 11)))) rfl (by kernel_rfl) (Or.inl ⟨rfl, rfl⟩) (Or.inr ⟨_, rfl, by kernel_rfl⟩) (by kernel_rfl) (y.rd i 3 (by kernel_rfl)) rfl z) ?_
 obtain ⟨J, aa, hm⟩ := gx_bind hm
 refine wC 75 #[pB a 0, .slice (subP u (0 : Int).toNat j 1) D.length (j - (0 : Int).toNat)] ((c_s_l1Cur_among C (⟨f, v.2.1, v.2.2⟩ : l1Cur) h g (k.mem0 i) a D (subP u (0 : Int).toNat j 1) (j - (0 : Int).toNat) ((y.rd i 3 (by kernel_rfl)).sliceM z) (i.hasPick [4]) (i.nodupPick [4] (by kernel_rfl)) (apartX.old0 k i [4]) (apartX.slice (apartX.own y i 3 (by kernel_rfl) [4] (by kernel_rfl)) z) aa).mono ?_)
 rintro e_ ae ⟨rfl, T⟩
 have V := i.callF' [4] [0, 1, 2, 3] (by kernel_rfl) T
 refine ⟨_, rfl, ?_⟩
 refine wR 3 [(2, .slice d b.1.length c), (3, .slice o l.1.length n), (4, iv J.1)] ae (W_nil (N_then (G_ret ?_)))
 obtain rfl := Option.some.inj hm
 exact N_ret [.slice d b.1.length c, .slice o l.1.length n, iv J.1] (rC (rC (rC RVs_nil))) (⟨d, c, ab, o, n, ac, ad, rfl, x, W, V.pk [0, 1, 2]⟩)
theorem c_s_DrawSetGoal (w : World) (f : List Int) (i : Option Addr) (g : Nat) (h : rdS Gx.encU8 w f i g) {r : (List Int) × (List Balloon) × Int × Int} (hm : M.s_DrawSetGoal f = some r) :
  Calls Try.prog 44 #[.slice i f.length g] w fun e w' => ∃ (K : Option Addr) (I : Nat) (O : Seg), ∃ (L : Option Addr) (J : Nat) (P : Seg) (Q : Seg), e = .returned (.tuple #[.slice K r.1.length I, .slice L r.2.1.length J, iv r.2.2.1, iv r.2.2.2]) ∧ ownS Gx.encI r.1 K I O ∧ ownD deepBalloon r.2.1 L J P Q ∧ Mem [] w w' [O, P, Q] := by
 unfold M.s_DrawSetGoal at hm
 refine cE Try.func44 ?_
 have M0 := Mem.refl [] w
 refine G_seq (G_region (wR 4 [(0, .slice i f.length g)] w (W_nil (N_then (G_seq (G_region (wR 2 [(10, .agg #[.slice i f.length g, iv 0, .int .u64 0])] w (wN (.cells ⟨[.slice i f.length g, iv 0, .int .u64 0]⟩ 78 (0, 0)) M0 ?_))))))))
 intro a C t
 refine wR 1 [(6, pB a 0)] C (W_nil (N_then (G_seq (G_region (wR 1 [(6, pB a 0), (12, pB a 0)] C ?_)))))
 obtain ⟨b, aa, hm⟩ := gx_bind hm
 refine wC 72 #[pB a 0] ((c_s_l1Cur_owners C (⟨f, 0, 0⟩ : l1Cur) i g (h.mem0 t) a (t.hasPick [0]) (t.nodupPick [0] (by kernel_rfl)) (apartX.old0 h t [0]) aa).mono ?_)
 rintro e_ D ⟨d, c, af, rfl, z, S⟩
 have o := t.callF' [0] [] (by kernel_rfl) S
 refine ⟨_, rfl, ?_⟩
 refine wR 1 [(6, pB a 0), (7, .slice d b.1.length c)] D (W_nil (N_then (G_seq (G_region (wR 2 [(6, pB a 0), (7, .slice d b.1.length c), (14, pB a 0), (15, .slice d b.1.length c)] D ?_)))))
 obtain ⟨j, ab, hm⟩ := gx_bind hm
 refine wC 73 #[pB a 0, .slice d b.1.length c] ((c_s_l1Cur_balloons D (⟨f, b.2.1, b.2.2⟩ : l1Cur) i g (h.mem0 o) a b.1 d c (z.rd o 1 (by kernel_rfl)) (o.hasPick [0]) (o.nodupPick [0] (by kernel_rfl)) (apartX.old0 h o [0]) (apartX.own z o 1 (by kernel_rfl) [0] (by kernel_rfl)) ab).mono ?_)
 rintro e_ F ⟨n, l, ag, ah, rfl, Z, T⟩
 have u := o.callF' [0] [1] (by kernel_rfl) T
 refine ⟨_, rfl, ?_⟩
 refine wR 1 [(6, pB a 0), (7, .slice d b.1.length c), (8, .slice n j.1.length l)] F (W_nil (N_then (G_seq (G_region (wR 3 [(6, pB a 0), (17, .slice d b.1.length c), (18, .slice n j.1.length l), (19, pB a 0)] F ?_)))))
 obtain ⟨q, ac, hm⟩ := gx_bind hm
 refine wC 74 #[pB a 0] ((c_s_l1Cur_guest18 F (⟨f, j.2.1, j.2.2⟩ : l1Cur) i g (h.mem0 u) a (u.hasPick [1]) (u.nodupPick [1] (by kernel_rfl)) (apartX.old0 h u [1]) ac).mono ?_)
 rintro e_ ai ⟨rfl, U⟩
 have X := u.callF' [1] [0, 2, 3] (by kernel_rfl) U
 refine ⟨_, rfl, ?_⟩
 refine wR 1 [(6, pB a 0), (17, .slice d b.1.length c), (18, .slice n j.1.length l), (20, iv q.1), (21, pB a 0)] ai (wL (E := Gx.encI) [0, 1, 3, 16, (-1), 17] 6 [iv 0, iv 1, iv 3, iv 16, iv (-1), iv 17] 3 X ?_)
 intro x m ak R A v
 refine wR 1 [(17, .slice d b.1.length c), (18, .slice n j.1.length l), (20, iv q.1), (21, pB a 0), (22, .slice x [0, 1, 3, 16, (-1), 17].length m), (23, pB a 0)] R ?_
 obtain ⟨y, ad, hm⟩ := gx_bind hm
 refine wC 76 #[pB a 0, iv 24] ((c_s_l1Cur_pick R (⟨f, q.2.1, q.2.2⟩ : l1Cur) i g (h.mem0 v) a 24 (v.hasPick [3]) (v.nodupPick [3] (by kernel_rfl)) (apartX.old0 h v [3]) ad).mono ?_)
 rintro e_ G ⟨rfl, V⟩
 have k := v.callF' [3] [0, 1, 2, 4] (by kernel_rfl) V
 refine ⟨_, rfl, ?_⟩
 refine wR 2 [(17, .slice d b.1.length c), (18, .slice n j.1.length l), (20, iv q.1), (21, pB a 0), (22, .slice x [0, 1, 3, 16, (-1), 17].length m), (26, iv (w64 (4 + (w64 (y.1.tdiv 11)))))] G ?_
 obtain ⟨H, B, hm⟩ := gx_bind hm
 refine wV (.slice (subP x (0 : Int).toNat m 1) H.length (m - (0 : Int).toNat)) G (E_slice (E := Gx.encI) _ _ _ _ [0, 1, 3, 16, (-1), 17].length 0 (w64 (4 + (w64 (y.1.tdiv 11)))) rfl (by kernel_rfl) (Or.inl ⟨rfl, rfl⟩) (Or.inr ⟨_, rfl, by kernel_rfl⟩) (by kernel_rfl) (A.rd k 3 (by kernel_rfl)) rfl B) ?_
 obtain ⟨N, ae, hm⟩ := gx_bind hm
 refine wC 75 #[pB a 0, .slice (subP x (0 : Int).toNat m 1) H.length (m - (0 : Int).toNat)] ((c_s_l1Cur_among G (⟨f, y.2.1, y.2.2⟩ : l1Cur) i g (h.mem0 k) a H (subP x (0 : Int).toNat m 1) (m - (0 : Int).toNat) ((A.rd k 3 (by kernel_rfl)).sliceM B) (k.hasPick [4]) (k.nodupPick [4] (by kernel_rfl)) (apartX.old0 h k [4]) (apartX.slice (apartX.own A k 3 (by kernel_rfl) [4] (by kernel_rfl)) B) ae).mono ?_)
 rintro e_ aj ⟨rfl, W⟩
 have Y := k.callF' [4] [0, 1, 2, 3] (by kernel_rfl) W
 refine ⟨_, rfl, ?_⟩
 refine wR 4 [(2, .slice d b.1.length c), (3, .slice n j.1.length l), (4, iv q.1), (5, iv N.1)] aj (W_nil (N_then (G_ret ?_)))
 obtain rfl := Option.some.inj hm
 exact N_ret [.slice d b.1.length c, .slice n j.1.length l, iv q.1, iv N.1] (rC (rC (rC (rC RVs_nil)))) (⟨d, c, af, n, l, ag, ah, rfl, z, Z, Y.pk [0, 1, 2]⟩)
theorem c_s_DrawAreBalloons (w : World) (f : List Int) (i : Option Addr) (h : Nat) (k : rdS Gx.encU8 w f i h) {r : (List Int) × (List Balloon)} (hm : M.s_DrawAreBalloons f = some r) :
  Calls Try.prog 77 #[.slice i f.length h] w fun e w' => ∃ (v : Option Addr) (t : Nat) (z : Seg), ∃ (x : Option Addr) (u : Nat) (A : Seg) (B : Seg), e = .returned (.tuple #[.slice v r.1.length t, .slice x r.2.length u]) ∧ ownS Gx.encI r.1 v t z ∧ ownD deepBalloon r.2 x u A B ∧ Mem [] w w' [z, A, B] := by
 unfold M.s_DrawAreBalloons at hm
 refine cE Try.func77 ?_
 have M0 := Mem.refl [] w
 refine G_seq (G_region (wR 2 [(0, .slice i f.length h)] w (W_nil (N_then (G_seq (G_region (wR 2 [(7, .agg #[.slice i f.length h, iv 0, .int .u64 0])] w (wN (.cells ⟨[.slice i f.length h, iv 0, .int .u64 0]⟩ 78 (0, 0)) M0 ?_))))))))
 intro a o j
 refine wR 1 [(4, pB a 0)] o (W_nil (N_then (G_seq (G_region (wR 1 [(4, pB a 0), (9, pB a 0)] o ?_)))))
 obtain ⟨b, G, hm⟩ := gx_bind hm
 refine wC 72 #[pB a 0] ((c_s_l1Cur_owners o (⟨f, 0, 0⟩ : l1Cur) i h (k.mem0 j) a (j.hasPick [0]) (j.nodupPick [0] (by kernel_rfl)) (apartX.old0 k j [0]) G).mono ?_)
 rintro e_ q ⟨d, c, I, rfl, m, C⟩
 have g := j.callF' [0] [] (by kernel_rfl) C
 refine ⟨_, rfl, ?_⟩
 refine wR 1 [(4, pB a 0), (5, .slice d b.1.length c)] q (W_nil (N_then (G_seq (G_region (wR 3 [(11, .slice d b.1.length c), (12, pB a 0), (13, .slice d b.1.length c)] q ?_)))))
 obtain ⟨y, H, hm⟩ := gx_bind hm
 refine wC 73 #[pB a 0, .slice d b.1.length c] ((c_s_l1Cur_balloons q (⟨f, b.2.1, b.2.2⟩ : l1Cur) i h (k.mem0 g) a b.1 d c (m.rd g 1 (by kernel_rfl)) (g.hasPick [0]) (g.nodupPick [0] (by kernel_rfl)) (apartX.old0 k g [0]) (apartX.own m g 1 (by kernel_rfl) [0] (by kernel_rfl)) H).mono ?_)
 rintro e_ L ⟨n, l, J, K, rfl, F, D⟩
 have E := g.callF' [0] [1] (by kernel_rfl) D
 refine ⟨_, rfl, ?_⟩
 refine wR 2 [(2, .slice d b.1.length c), (3, .slice n y.1.length l)] L (W_nil (N_then (G_ret ?_)))
 obtain rfl := Option.some.inj hm
 exact N_ret [.slice d b.1.length c, .slice n y.1.length l] (rC (rC RVs_nil)) (⟨d, c, I, n, l, J, K, rfl, m, F, E.pk [0, 2, 3]⟩)
theorem c_s_DrawGivenFrames (w : World) (a : List Int) (c : Option Addr) (b : Nat) (v : rdS Gx.encU8 w a c b) {r : (List Int) × (List Balloon)} (hm : M.s_DrawGivenFrames a = some r) :
  Calls Try.prog 45 #[.slice c a.length b] w fun e w' => ∃ (l : Option Addr) (j : Nat) (n : Seg), ∃ (m : Option Addr) (k : Nat) (o : Seg) (q : Seg), e = .returned (.tuple #[.slice l r.1.length j, .slice m r.2.length k]) ∧ ownS Gx.encI r.1 l j n ∧ ownD deepBalloon r.2 m k o q ∧ Mem [] w w' [n, o, q] := by
 unfold M.s_DrawGivenFrames at hm
 refine cE Try.func45 ?_
 have M0 := Mem.refl [] w
 refine G_seq (G_region (wR 2 [(0, .slice c a.length b)] w (W_nil (N_then (G_seq (G_region (wR 1 [(4, .slice c a.length b)] w ?_)))))))
 obtain ⟨d, z, hm⟩ := gx_bind hm
 refine wC 77 #[.slice c a.length b] ((c_s_DrawAreBalloons w a c b (v.mem0 M0) z).mono ?_)
 rintro e_ D ⟨h, f, A, i, g, B, C, rfl, x, y, t⟩
 have u := M0.call t
 refine ⟨_, rfl, ?_⟩
 refine wR 4 [(2, .slice h d.1.length f), (3, .slice i d.2.length g)] D (W_nil (N_then (G_ret ?_)))
 obtain rfl := Option.some.inj hm
 exact N_ret [.slice h d.1.length f, .slice i d.2.length g] (rC (rC RVs_nil)) (⟨h, f, A, i, g, B, C, rfl, x, y, u.pk [0, 1, 2]⟩)
end Go.Proofs.Ytlfligjpmodefaa
