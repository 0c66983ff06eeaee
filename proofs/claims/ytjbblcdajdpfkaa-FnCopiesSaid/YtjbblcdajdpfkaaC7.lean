/- The walks, printed by program: whenever the model gives r, the call returns r. Part 7. -/
import Derived.Test.YtjbblcdajdpfkaaM
import Derived.Test.YtjbblcdajdpfkaaGxZ
import Derived.Test.YtjbblcdajdpfkaaProg
import Derived.Test.YtjbblcdajdpfkaaC6
set_option linter.unusedVariables false
set_option maxRecDepth 100000
set_option maxHeartbeats 4000000
namespace Go.Proofs.Ytjbblcdajdpfkaa
open Go.Gx
theorem c_l_FnCopies (w : World) (d : List Int) (k : Option Addr) (g : Nat) (de : rdS Gx.encU8 w d k g) {r : Bool} (hm : M.l_FnCopies d = some r) :
  Calls Try.prog 11 #[.slice k d.length g] w fun e w' => e = .returned (.bool r) ∧ Mem [] w w' [] := by
 unfold M.l_FnCopies at hm
 refine cE Try.func11 ?_
 have M0 := Mem.refl [] w
 refine G_seq (G_region (wR 1 [(0, .slice k d.length g)] w (W_nil (N_then (G_seq (G_seq (G_region (wR 1 [(0, .slice k d.length g), (45, .slice k d.length g)] w ?_))))))))
 obtain ⟨n6, lf, hm⟩ := gx_bind hm
 refine wC 43 #[.slice k d.length g] ((c_l_vBig w d k g (de.mem0 M0) lf).mono ?_)
 rintro e_ fl ⟨rfl, ht⟩
 have d6 := M0.call0 ht
 refine ⟨_, rfl, ?_⟩
 refine W_nil (N_then ?_)
 rcases gx_bif hm with ⟨e1, hm⟩ | ⟨e1, hm⟩
 ·refine gT e1 (G_seq (G_region (wR 1 [(2, .bool true)] fl (W_nil (N_then (G_ret (N_then_ret ?_)))))))
  obtain rfl := Option.some.inj hm
  exact N_ret [.bool true] (rC RVs_nil) (⟨rfl, d6.pk []⟩)
 refine gF e1 (G_skip (N_then (G_seq (G_region (wR 1 [(0, .slice k d.length g), (48, .slice k d.length g)] fl ?_)))))
 obtain ⟨c, kt, hm⟩ := gx_bind hm
 refine wC 44 #[.slice k d.length g] ((c_s_DrawRunRounds fl d k g (de.mem0 d6) kt).mono ?_)
 rintro e_ l9 ⟨ai, ah, gs, an, ak, gt, ao, al, gu, o, q, cn, co, rfl, c1, df, dg, e4, g8⟩
 have hu := d6.call g8
 refine ⟨_, rfl, ?_⟩
 refine wR 4 [(0, .slice k d.length g), (50, .agg #[.slice ai c.1.Memory.length ah, .slice an c.1.Copy.length ak, .slice ao c.1.Dirty.length al]), (51, .slice o c.2.1.length q), (52, iv c.2.2)] l9 (wN (.cells ⟨[.slice none 0 0, .slice none 0 0, .slice none 0 0]⟩ 28 (0, 0)) hu ?_)
 intro B ok hv
 refine wS true 3 0 (.agg #[.slice ai c.1.Memory.length ah, .slice an c.1.Copy.length ak, .slice ao c.1.Dirty.length al]) 5 [.slice ai c.1.Memory.length ah, .slice an c.1.Copy.length ak, .slice ao c.1.Dirty.length al] hv rfl ?_
 intro dt b6
 refine wR 2 [(0, .slice k d.length g), (3, pB B 0), (4, .slice o c.2.1.length q), (5, iv c.2.2)] dt (W_nil (N_then (G_seq (G_region (wV (.agg #[.slice ai c.1.Memory.length ah, .slice an c.1.Copy.length ak, .slice ao c.1.Dirty.length al]) dt (eL true 3 0 (b6.blk 5 rfl)) (wR 2 [(0, .slice k d.length g), (3, pB B 0), (4, .slice o c.2.1.length q), (5, iv c.2.2), (54, .agg #[.slice ai c.1.Memory.length ah, .slice an c.1.Copy.length ak, .slice ao c.1.Dirty.length al]), (55, .slice o c.2.1.length q), (56, iv c.2.2)] dt ?_))))))
 obtain ⟨n, ku, hm⟩ := gx_bind hm
 refine wC 41 #[.agg #[.slice ai c.1.Memory.length ah, .slice an c.1.Copy.length ak, .slice ao c.1.Dirty.length al], .slice o c.2.1.length q, iv c.2.2] ((c_i_RunRounds dt c.1 ai ah (c1.rd b6 0 (by kernel_rfl)) an ak (df.rd b6 1 (by kernel_rfl)) ao al (dg.rd b6 2 (by kernel_rfl)) c.2.1 o q (e4.rd b6 3 (by kernel_rfl) 4 (by kernel_rfl)) c.2.2 ku).mono ?_)
 rintro e_ ma ⟨ap, am, l2, a0, ax, l3, a3, ay, l4, rfl, c2, dh, di, g9⟩
 have hw := b6.call g9
 refine ⟨_, rfl, ?_⟩
 refine wR 4 [(0, .slice k d.length g), (3, pB B 0), (4, .slice o c.2.1.length q), (5, iv c.2.2), (58, .agg #[.slice ap n.1.Memory.length am, .slice a0 n.1.Copy.length ax, .slice a3 n.1.Dirty.length ay]), (59, iv n.2.1), (60, .bool n.2.2)] ma (wN (.cells ⟨[.slice none 0 0, .slice none 0 0, .slice none 0 0]⟩ 28 (0, 0)) hw ?_)
 intro ae ol hx
 refine wS true 3 0 (.agg #[.slice ap n.1.Memory.length am, .slice a0 n.1.Copy.length ax, .slice a3 n.1.Dirty.length ay]) 9 [.slice ap n.1.Memory.length am, .slice a0 n.1.Copy.length ax, .slice a3 n.1.Dirty.length ay] hx rfl ?_
 intro du b7
 refine wR 2 [(0, .slice k d.length g), (3, pB B 0), (4, .slice o c.2.1.length q), (5, iv c.2.2), (6, pB ae 0), (7, iv n.2.1), (8, .bool n.2.2)] du (W_nil (N_then (G_seq (G_seq (G_region (wV (.agg #[.slice ai c.1.Memory.length ah, .slice an c.1.Copy.length ak, .slice ao c.1.Dirty.length al]) du (eL true 3 0 (b7.blk 5 rfl)) (wR 2 [(0, .slice k d.length g), (3, pB B 0), (4, .slice o c.2.1.length q), (5, iv c.2.2), (6, pB ae 0), (7, iv n.2.1), (8, .bool n.2.2), (62, .agg #[.slice ai c.1.Memory.length ah, .slice an c.1.Copy.length ak, .slice ao c.1.Dirty.length al]), (63, .slice o c.2.1.length q), (64, iv c.2.2)] du ?_)))))))
 obtain ⟨ab, kv, hm⟩ := gx_bind hm
 refine wC 40 #[.agg #[.slice ai c.1.Memory.length ah, .slice an c.1.Copy.length ak, .slice ao c.1.Dirty.length al], .slice o c.2.1.length q, iv c.2.2] ((c_s_RunRounds du c.1 ai ah (c1.rd b7 0 (by kernel_rfl)) an ak (df.rd b7 1 (by kernel_rfl)) ao al (dg.rd b7 2 (by kernel_rfl)) c.2.1 o q (e4.rd b7 3 (by kernel_rfl) 4 (by kernel_rfl)) c.2.2 kv).mono ?_)
 rintro e_ mb ⟨cj, cc, n7, ck, cd, n8, cl, ce, n9, rfl, j8, j9, ka, hb⟩
 have hy := b7.call hb
 refine ⟨_, rfl, ?_⟩
 refine wR 4 [(0, .slice k d.length g), (3, pB B 0), (4, .slice o c.2.1.length q), (5, iv c.2.2), (6, pB ae 0), (7, iv n.2.1), (8, .bool n.2.2), (66, .agg #[.slice cj ab.1.Memory.length cc, .slice ck ab.1.Copy.length cd, .slice cl ab.1.Dirty.length ce]), (67, iv ab.2.1), (68, .bool ab.2.2)] mb (wN (.cells ⟨[.slice none 0 0, .slice none 0 0, .slice none 0 0]⟩ 28 (0, 0)) hy ?_)
 intro d7 om hz
 refine wS true 3 0 (.agg #[.slice cj ab.1.Memory.length cc, .slice ck ab.1.Copy.length cd, .slice cl ab.1.Dirty.length ce]) 13 [.slice cj ab.1.Memory.length cc, .slice ck ab.1.Copy.length cd, .slice cl ab.1.Dirty.length ce] hz rfl ?_
 intro mc h0
 refine wR 2 [(0, .slice k d.length g), (3, pB B 0), (4, .slice o c.2.1.length q), (5, iv c.2.2), (6, pB ae 0), (7, iv n.2.1), (8, .bool n.2.2), (9, pB d7 0), (10, iv ab.2.1), (11, .bool ab.2.2)] mc (W_nil (N_then (G_seq ?_)))
 obtain ⟨lp, kb, j0⟩ := gx_bind hm
 refine G_meet (fun a w' => Mem [] w w' [gs, gt, gu, cn, co, [(B, .cells ⟨[.slice ai c.1.Memory.length ah, .slice an c.1.Copy.length ak, .slice ao c.1.Dirty.length al]⟩ 28 (0, 0))], l2, l3, l4, [(ae, .cells ⟨[.slice ap n.1.Memory.length am, .slice a0 n.1.Copy.length ax, .slice a3 n.1.Dirty.length ay]⟩ 28 (0, 0))]] ∧ Sat Try.f11.ntmps [(0, .slice k d.length g), (3, pB B 0), (4, .slice o c.2.1.length q), (5, iv c.2.2), (6, pB ae 0), (7, iv n.2.1), (8, .bool n.2.2), (89, .bool lp)] a) ?_ ?_
 ·have hm := kb
  refine G_quiet (by kernel_rfl) (by kernel_rfl) h0 (zR [.bool n.2.2, .bool ab.2.2, .bool (!(n.2.2 == ab.2.2)), .bool (!(n.2.2 == ab.2.2))] [(0, .slice k d.length g), (3, pB B 0), (4, .slice o c.2.1.length q), (5, iv c.2.2), (6, pB ae 0), (7, iv n.2.1), (8, .bool n.2.2), (9, pB d7 0), (10, iv ab.2.1), (72, .bool (!(n.2.2 == ab.2.2)))] ?_)
  rcases gx_bif hm with ⟨ea, hm⟩ | ⟨ea, hm⟩
  ·refine zK 72 true ea (zR [undef, undef, undef, .bool true, .bool true, undef, undef, undef, undef, .bool true, .bool true, undef, undef, undef, undef, undef, .bool true] [(0, .slice k d.length g), (3, pB B 0), (4, .slice o c.2.1.length q), (5, iv c.2.2), (6, pB ae 0), (7, iv n.2.1), (8, .bool n.2.2), (89, .bool true)] (Z_end fun on h1 => ?_))
   obtain rfl := Option.some.inj hm
   exact N_meet fun a ha => ⟨h1.pk [0, 1, 2, 3, 4, 5, 6, 7, 8, 9], ha.s⟩
  refine zK 72 false ea (zR [iv n.2.1, iv ab.2.1, .bool (n.2.1 != ab.2.1), .bool (n.2.1 != ab.2.1), .bool (n.2.1 != ab.2.1)] [(0, .slice k d.length g), (3, pB B 0), (4, .slice o c.2.1.length q), (5, iv c.2.2), (6, pB ae 0), (7, iv n.2.1), (8, .bool n.2.2), (9, pB d7 0), (77, .bool (n.2.1 != ab.2.1))] ?_)
  rcases gx_bif hm with ⟨eb, hm⟩ | ⟨eb, hm⟩
  ·refine zK 77 true eb (zR [undef, undef, undef, undef, .bool true, .bool true, undef, undef, undef, undef, undef, .bool true] [(0, .slice k d.length g), (3, pB B 0), (4, .slice o c.2.1.length q), (5, iv c.2.2), (6, pB ae 0), (7, iv n.2.1), (8, .bool n.2.2), (89, .bool true)] (Z_end fun oo h2 => ?_))
   obtain rfl := Option.some.inj hm
   exact N_meet fun a ha => ⟨h2.pk [0, 1, 2, 3, 4, 5, 6, 7, 8, 9], ha.s⟩
  refine zK 77 false eb (zV (.agg #[.slice ap n.1.Memory.length am, .slice a0 n.1.Copy.length ax, .slice a3 n.1.Dirty.length ay]) (fun w_ M_ => (eL true 3 0 (M_.blk 9 rfl))) (zV (.agg #[.slice cj ab.1.Memory.length cc, .slice ck ab.1.Copy.length cd, .slice cl ab.1.Dirty.length ce]) (fun w_ M_ => (eL true 3 0 (M_.blk 13 rfl))) ?_))
  obtain ⟨c4, kw, hm⟩ := gx_bind hm
  refine Z_call 45 #[.agg #[.slice ap n.1.Memory.length am, .slice a0 n.1.Copy.length ax, .slice a3 n.1.Dirty.length ay], .agg #[.slice cj ab.1.Memory.length cc, .slice ck ab.1.Copy.length cd, .slice cl ab.1.Dirty.length ce]] (.bool c4) (by kernel_rfl) (fun w_ => by kernel_rfl) (fun w_ M_ => (c_l_vCopying w_ n.1 ap am (c2.rd M_ 6 (by kernel_rfl)) a0 ax (dh.rd M_ 7 (by kernel_rfl)) a3 ay (di.rd M_ 8 (by kernel_rfl)) ab.1 cj cc (j8.rd M_ 10 (by kernel_rfl)) ck cd (j9.rd M_ 11 (by kernel_rfl)) cl ce (ka.rd M_ 12 (by kernel_rfl)) kw).mono fun e w2_ h_ => ⟨h_.1, M_.call0 h_.2⟩) (zR [.bool (!c4), .bool (!c4), .bool (!c4)] [(0, .slice k d.length g), (3, pB B 0), (4, .slice o c.2.1.length q), (5, iv c.2.2), (6, pB ae 0), (7, iv n.2.1), (8, .bool n.2.2), (83, .bool (!c4))] ?_)
  rcases gx_bif hm with ⟨ec, hm⟩ | ⟨ec, hm⟩
  ·refine zK 83 true ec (zR [undef, undef, undef, undef, undef, .bool true] [(0, .slice k d.length g), (3, pB B 0), (4, .slice o c.2.1.length q), (5, iv c.2.2), (6, pB ae 0), (7, iv n.2.1), (8, .bool n.2.2), (89, .bool true)] (Z_end fun op h3 => ?_))
   obtain rfl := Option.some.inj hm
   exact N_meet fun a ha => ⟨h3.pk [0, 1, 2, 3, 4, 5, 6, 7, 8, 9], ha.s⟩
  refine zK 83 false ec (zV (.agg #[.slice ai c.1.Memory.length ah, .slice an c.1.Copy.length ak, .slice ao c.1.Dirty.length al]) (fun w_ M_ => (eL true 3 0 (M_.blk 5 rfl))) ?_)
  obtain ⟨dq, kx, hm⟩ := gx_bind hm
  refine Z_call 16 #[.agg #[.slice ai c.1.Memory.length ah, .slice an c.1.Copy.length ak, .slice ao c.1.Dirty.length al]] (.bool dq) (by kernel_rfl) (fun w_ => by kernel_rfl) (fun w_ M_ => (c_i_IsCopying w_ c.1 ai ah (c1.rd M_ 0 (by kernel_rfl)) an ak (df.rd M_ 1 (by kernel_rfl)) ao al (dg.rd M_ 2 (by kernel_rfl)) kx).mono fun e w2_ h_ => ⟨h_.1, M_.call0 h_.2⟩) (zV (.agg #[.slice ai c.1.Memory.length ah, .slice an c.1.Copy.length ak, .slice ao c.1.Dirty.length al]) (fun w_ M_ => (eL true 3 0 (M_.blk 5 rfl))) ?_)
  obtain ⟨dr, ky, hm⟩ := gx_bind hm
  refine Z_call 14 #[.agg #[.slice ai c.1.Memory.length ah, .slice an c.1.Copy.length ak, .slice ao c.1.Dirty.length al]] (.bool dr) (by kernel_rfl) (fun w_ => by kernel_rfl) (fun w_ M_ => (c_s_IsCopying w_ c.1 ai ah (c1.rd M_ 0 (by kernel_rfl)) an ak (df.rd M_ 1 (by kernel_rfl)) ao al (dg.rd M_ 2 (by kernel_rfl)) ky).mono fun e w2_ h_ => ⟨h_.1, M_.call0 h_.2⟩) (zR [.bool (!(dq == dr)), .bool (!(dq == dr))] [(0, .slice k d.length g), (3, pB B 0), (4, .slice o c.2.1.length q), (5, iv c.2.2), (6, pB ae 0), (7, iv n.2.1), (8, .bool n.2.2), (89, .bool (!(dq == dr)))] (Z_end fun oq h4 => ?_))
  obtain rfl := Option.some.inj hm
  exact N_meet fun a ha => ⟨h4.pk [0, 1, 2, 3, 4, 5, 6, 7, 8, 9], ha.s⟩
 intro nq dv ⟨bv, jm⟩
 refine N_use jm ?_
 have hm := j0
 refine N_then ?_
 rcases gx_bif hm with ⟨ed, hm⟩ | ⟨ed, hm⟩
 ·refine gT ed (G_seq (G_region (wR 1 [(2, .bool false)] dv (W_nil (N_then (G_ret (N_then_ret ?_)))))))
  obtain rfl := Option.some.inj hm
  exact N_ret [.bool false] (rC RVs_nil) (⟨rfl, bv.pk []⟩)
 refine gF ed (G_skip (N_then (G_seq (G_seq (G_region (wR 1 [(0, .slice k d.length g), (3, pB B 0), (4, .slice o c.2.1.length q), (5, iv c.2.2), (6, pB ae 0), (7, iv n.2.1), (90, .bool n.2.2)] dv (W_nil (N_then ?_))))))))
 obtain ⟨lu, kc, e2⟩ := gx_bind hm
 refine G_meet (fun a w' => ∃ (go : Unit), lu = .inl go ∧ Mem [] w w' [] ∧ Sat Try.f11.ntmps [(0, .slice k d.length g)] a) ?_ ?_
 ·have hm := kc
  rcases gx_bif hm with ⟨ee, hm⟩ | ⟨ee, hm⟩
  ·refine gT ee (G_seq (G_region (wV (.agg #[.slice ap n.1.Memory.length am, .slice a0 n.1.Copy.length ax, .slice a3 n.1.Dirty.length ay]) dv (eL true 3 0 (bv.blk 9 rfl)) ?_)))
   obtain ⟨bu, kz, hm⟩ := gx_bind hm
   refine wC 26 #[.agg #[.slice ap n.1.Memory.length am, .slice a0 n.1.Copy.length ax, .slice a3 n.1.Dirty.length ay]] ((c_i_DirtyWords dv n.1 ap am (c2.rd bv 6 (by kernel_rfl)) a0 ax (dh.rd bv 7 (by kernel_rfl)) a3 ay (di.rd bv 8 (by kernel_rfl)) kz).mono ?_)
   rintro e_ fj ⟨dp, dd, oa, rfl, n3, hc⟩
   have cv := bv.call hc
   refine ⟨_, rfl, ?_⟩
   refine wR 5 [(0, .slice k d.length g), (3, pB B 0), (4, .slice o c.2.1.length q), (5, iv c.2.2), (6, pB ae 0), (7, iv n.2.1), (12, .slice dp bu.1.length dd), (13, .bool bu.2)] fj (W_nil (N_then (G_seq (G_region (wV (.agg #[.slice ap n.1.Memory.length am, .slice a0 n.1.Copy.length ax, .slice a3 n.1.Dirty.length ay]) fj (eL true 3 0 (cv.blk 9 rfl)) ?_)))))
   obtain ⟨z, k0, hm⟩ := gx_bind hm
   refine wC 29 #[.agg #[.slice ap n.1.Memory.length am, .slice a0 n.1.Copy.length ax, .slice a3 n.1.Dirty.length ay]] ((c_i_FinishCopy fj n.1 ap am (c2.rd cv 6 (by kernel_rfl)) a0 ax (dh.rd cv 7 (by kernel_rfl)) a3 ay (di.rd cv 8 (by kernel_rfl)) k0).mono ?_)
   rintro e_ bl ⟨F, C, cp, rfl, gg, hd⟩
   have bw := cv.call hd
   refine ⟨_, rfl, ?_⟩
   refine wR 7 [(0, .slice k d.length g), (3, pB B 0), (4, .slice o c.2.1.length q), (5, iv c.2.2), (6, pB ae 0), (7, iv n.2.1), (12, .slice dp bu.1.length dd), (13, .bool bu.2), (14, .slice F z.1.length C), (15, iv z.2.1), (16, .bool z.2.2)] bl (W_nil (N_then (G_seq (G_seq ?_))))
   obtain ⟨lq, kd, j1⟩ := gx_bind hm
   refine G_meet (fun a w' => Mem [] w w' [gs, gt, gu, cn, co, [(B, .cells ⟨[.slice ai c.1.Memory.length ah, .slice an c.1.Copy.length ak, .slice ao c.1.Dirty.length al]⟩ 28 (0, 0))], cp] ∧ Sat Try.f11.ntmps [(0, .slice k d.length g), (3, pB B 0), (4, .slice o c.2.1.length q), (14, .slice F z.1.length C), (133, .bool lq)] a) ?_ ?_
   ·have hm := kd
    refine G_region (wR 3 [(0, .slice k d.length g), (3, pB B 0), (4, .slice o c.2.1.length q), (5, iv c.2.2), (6, pB ae 0), (7, iv n.2.1), (12, .slice dp bu.1.length dd), (14, .slice F z.1.length C), (15, iv z.2.1), (16, .bool z.2.2), (104, .bool (!bu.2))] bl ?_)
    rcases gx_bif hm with ⟨ef, hm⟩ | ⟨ef, hm⟩
    ·refine wK 104 true ef (wR 29 [(0, .slice k d.length g), (3, pB B 0), (4, .slice o c.2.1.length q), (14, .slice F z.1.length C), (133, .bool true)] bl (W_nil ?_))
     obtain rfl := Option.some.inj hm
     exact N_meet fun a ha => ⟨bw.pk [0, 1, 2, 3, 4, 5, 11], ha.s⟩
    refine wK 104 false ef (wR 4 [(0, .slice k d.length g), (3, pB B 0), (4, .slice o c.2.1.length q), (5, iv c.2.2), (6, pB ae 0), (7, iv n.2.1), (12, .slice dp bu.1.length dd), (14, .slice F z.1.length C), (15, iv z.2.1), (108, .bool (!z.2.2))] bl ?_)
    rcases gx_bif hm with ⟨eg, hm⟩ | ⟨eg, hm⟩
    ·refine wK 108 true eg (wR 25 [(0, .slice k d.length g), (3, pB B 0), (4, .slice o c.2.1.length q), (14, .slice F z.1.length C), (133, .bool true)] bl (W_nil ?_))
     obtain rfl := Option.some.inj hm
     exact N_meet fun a ha => ⟨bw.pk [0, 1, 2, 3, 4, 5, 11], ha.s⟩
    refine wK 108 false eg (wR 6 [(0, .slice k d.length g), (3, pB B 0), (4, .slice o c.2.1.length q), (5, iv c.2.2), (6, pB ae 0), (7, iv n.2.1), (14, .slice F z.1.length C), (114, .bool (z.2.1 != (bu.1.length : Int)))] bl ?_)
    rcases gx_bif hm with ⟨eh, hm⟩ | ⟨eh, hm⟩
    ·refine wK 114 true eh (wR 19 [(0, .slice k d.length g), (3, pB B 0), (4, .slice o c.2.1.length q), (14, .slice F z.1.length C), (133, .bool true)] bl (W_nil ?_))
     obtain rfl := Option.some.inj hm
     exact N_meet fun a ha => ⟨bw.pk [0, 1, 2, 3, 4, 5, 11], ha.s⟩
    refine wK 114 false eh (wR 2 [(0, .slice k d.length g), (3, pB B 0), (4, .slice o c.2.1.length q), (5, iv c.2.2), (6, pB ae 0), (7, iv n.2.1), (14, .slice F z.1.length C), (114, .bool false), (115, .slice F z.1.length C), (116, pB ae 0)] bl (wV (.slice ap n.1.Memory.length am) bl (eL false 1 0 (bw.blk 9 rfl)) ?_))
    obtain ⟨ly, k1, hm⟩ := gx_bind hm
    refine wC 46 #[.slice F z.1.length C, .slice ap n.1.Memory.length am] ((c_l_vInts bl z.1 F C (gg.rd bw 11 (by kernel_rfl)) n.1.Memory ap am (c2.rd bw 6 (by kernel_rfl)) k1).mono ?_)
    rintro e_ cq ⟨rfl, he⟩
    have bx := bw.call0 he
    refine ⟨_, rfl, ?_⟩
    refine wR 3 [(0, .slice k d.length g), (3, pB B 0), (4, .slice o c.2.1.length q), (5, iv c.2.2), (6, pB ae 0), (7, iv n.2.1), (14, .slice F z.1.length C), (121, .bool (!ly))] cq ?_
    rcases gx_bif hm with ⟨ei, hm⟩ | ⟨ei, hm⟩
    ·refine wK 121 true ei (wR 12 [(0, .slice k d.length g), (3, pB B 0), (4, .slice o c.2.1.length q), (14, .slice F z.1.length C), (133, .bool true)] cq (W_nil ?_))
     obtain rfl := Option.some.inj hm
     exact N_meet fun a ha => ⟨bx.pk [0, 1, 2, 3, 4, 5, 11], ha.s⟩
    refine wK 121 false ei (wR 8 [(0, .slice k d.length g), (3, pB B 0), (4, .slice o c.2.1.length q), (6, pB ae 0), (14, .slice F z.1.length C), (129, .bool (decide (n.2.1 > (w64 (c.2.2 * (c.2.1.length : Int))))))] cq ?_)
    rcases gx_bif hm with ⟨ej, hm⟩ | ⟨ej, hm⟩
    ·refine wK 129 true ej (wR 4 [(0, .slice k d.length g), (3, pB B 0), (4, .slice o c.2.1.length q), (14, .slice F z.1.length C), (133, .bool true)] cq (W_nil ?_))
     obtain rfl := Option.some.inj hm
     exact N_meet fun a ha => ⟨bx.pk [0, 1, 2, 3, 4, 5, 11], ha.s⟩
    refine wK 129 false ej (wV (.agg #[.slice ap n.1.Memory.length am, .slice a0 n.1.Copy.length ax, .slice a3 n.1.Dirty.length ay]) cq (eL true 3 0 (bx.blk 9 rfl)) ?_)
    obtain ⟨lz, k2, hm⟩ := gx_bind hm
    refine wC 16 #[.agg #[.slice ap n.1.Memory.length am, .slice a0 n.1.Copy.length ax, .slice a3 n.1.Dirty.length ay]] ((c_i_IsCopying cq n.1 ap am (c2.rd bx 6 (by kernel_rfl)) a0 ax (dh.rd bx 7 (by kernel_rfl)) a3 ay (di.rd bx 8 (by kernel_rfl)) k2).mono ?_)
    rintro e_ md ⟨rfl, hf⟩
    have h5 := bx.call0 hf
    refine ⟨_, rfl, ?_⟩
    refine wR 2 [(0, .slice k d.length g), (3, pB B 0), (4, .slice o c.2.1.length q), (14, .slice F z.1.length C), (133, .bool (!lz))] md (W_nil ?_)
    obtain rfl := Option.some.inj hm
    exact N_meet fun a ha => ⟨h5.pk [0, 1, 2, 3, 4, 5, 11], ha.s⟩
   intro nr me ⟨fn, jn⟩
   refine N_use jn ?_
   have hm := j1
   refine N_then ?_
   rcases gx_bif hm with ⟨ek, hm⟩ | ⟨ek, hm⟩
   ·refine gT ek (G_seq (G_region (wR 1 [(2, .bool false)] me (W_nil (N_then (G_ret (N_then_ret (N_meet_ret ?_))))))))
    obtain rfl := Option.some.inj hm
    have hm := e2
    simp only [Sum.elim_inr] at hm
    refine N_then_ret ?_
    obtain rfl := Option.some.inj hm
    exact N_ret [.bool false] (rC RVs_nil) (⟨rfl, fn.pk []⟩)
   refine gF ek (G_skip (N_then (G_seq (G_region (wL (E := Gx.encI) ([] : List Int) 0 [] 3 fn ?_)))))
   intro lx jl ob gv ke d0
   refine wR 1 [(0, .slice k d.length g), (4, .slice o c.2.1.length q), (14, .slice F z.1.length C), (134, .slice lx ([] : List Int).length jl), (135, pB B 0)] gv (wV (.slice ai c.1.Memory.length ah) gv (eL false 1 0 (d0.blk 5 rfl)) ?_)
   obtain ⟨f9, jz, hm⟩ := gx_bind hm
   refine wA 8 [iv 0] 7 d0 ke (c1.rd d0 0 (by kernel_rfl)) jz ?_
   intro ac ad l5 gw kf h6
   refine wR 1 [(0, .slice k d.length g), (4, .slice o c.2.1.length q), (14, .slice F z.1.length C), (17, .slice ac f9.length ad)] gw (W_nil (N_then (G_seq (G_seq (G_region (wR 1 [(0, .slice k d.length g), (4, .slice o c.2.1.length q), (14, .slice F z.1.length C), (17, .slice ac f9.length ad), (18, iv 0)] gw (W_nil (N_then ?_))))))))
   obtain ⟨c3, li, j6⟩ := gx_bind hm
   refine G_meet (fun a w' => ∃ (fi : Seg), ownS Gx.encI c3 ac ad fi ∧ Mem [] w w' [cp, fi] ∧ Sat Try.f11.ntmps [(0, .slice k d.length g), (14, .slice F z.1.length C), (17, .slice ac c3.length ad)] a) ?_ ?_
   ·refine G_block (G_while (σ := Int × List Int) (ρ := List Int) (fun A a w' => ∃ (c6 : Seg), ownS Gx.encI A.2 ac ad c6 ∧ Mem [] w w' [cn, co, cp, c6] ∧ Sat Try.f11.ntmps [(0, .slice k d.length g), (4, .slice o c.2.1.length q), (14, .slice F z.1.length C), (17, .slice ac A.2.length ad), (18, iv A.1)] a) li (fun a ha => ⟨l5, kf, h6.pk [3, 4, 6, 7], ha.s⟩) ?_)
    clear hm
    intro A o5 hm kr ns gx ⟨c6, gh, fo, jo⟩
    refine G_use jo (G_seq (G_seq (G_region (wR 4 [(0, .slice k d.length g), (4, .slice o c.2.1.length q), (14, .slice F z.1.length C), (17, .slice ac A.2.length ad), (18, iv A.1), (141, .bool (decide (A.1 < (c.2.1.length : Int))))] gx (W_nil (N_then ?_))))))
    rcases gx_bif hm with ⟨el, hm⟩ | ⟨el, hm⟩
    ·refine gT el (G_skip (N_then (G_seq (G_block (G_seq (G_region (wR 1 [(0, .slice k d.length g), (4, .slice o c.2.1.length q), (14, .slice F z.1.length C), (17, .slice ac A.2.length ad), (18, iv A.1), (19, iv 0)] gx (W_nil (N_then ?_)))))))))
     obtain ⟨ff, lj, j7⟩ := gx_bind hm
     refine G_meet (fun a w' => ∃ (ds : Seg), ownS Gx.encI ff ac ad ds ∧ Mem [] w w' [cn, co, cp, ds] ∧ Sat Try.f11.ntmps [(0, .slice k d.length g), (4, .slice o c.2.1.length q), (14, .slice F z.1.length C), (17, .slice ac ff.length ad), (18, iv A.1)] a) ?_ ?_
     ·refine G_block (G_while (σ := Int × List Int) (ρ := List Int) (fun u a w' => ∃ (c7 : Seg), ownS Gx.encI u.2 ac ad c7 ∧ Mem [] w w' [cn, co, cp, c7] ∧ Sat Try.f11.ntmps [(0, .slice k d.length g), (4, .slice o c.2.1.length q), (14, .slice F z.1.length C), (17, .slice ac u.2.length ad), (18, iv A.1), (19, iv u.1)] a) lj (fun a ha => ⟨c6, gh, fo.pk [0, 1, 2, 3], ha.s⟩) ?_)
      clear hm
      intro u o6 hm ks nt dw ⟨c7, e5, da, jp⟩
      refine G_use jp (G_seq (G_seq (G_region (wR 3 [(0, .slice k d.length g), (4, .slice o c.2.1.length q), (14, .slice F z.1.length C), (17, .slice ac u.2.length ad), (18, iv A.1), (19, iv u.1), (144, iv u.1), (145, .slice o c.2.1.length q), (146, iv A.1)] dw ?_))))
      obtain ⟨fm, lk, hm⟩ := gx_bind hm
      obtain ⟨o7, ci, ch, cg⟩ := id e4
      obtain ⟨ga, gb⟩ := gxIdx_fst ci lk
      refine wV (elemP o (A.1.toNat * 1)) dw (eI (ch.rd da 0 (by kernel_rfl)) (len_fst ci) gb) (wV (.slice ((ga 0).1) fm.length ((ga 0).2)) dw (eE false 1 0 (A.1.toNat * 1) (ch.rd da 0 (by kernel_rfl)) gb) (wR 2 [(0, .slice k d.length g), (4, .slice o c.2.1.length q), (14, .slice F z.1.length C), (17, .slice ac u.2.length ad), (18, iv A.1), (19, iv u.1), (150, .bool (decide (u.1 < (fm.length : Int))))] dw (W_nil (N_then ?_))))
      rcases gx_bif hm with ⟨em, hm⟩ | ⟨em, hm⟩
      ·refine gT em (G_skip (N_then (G_seq (G_block ?_))))
       obtain ⟨b4, ll, hm⟩ := gx_bind hm
       obtain ⟨af, cz⟩ := gxIdx_fst ci ll
       obtain ⟨a7, fd, hm⟩ := gx_bind hm
       obtain ⟨b5, lm, hm⟩ := gx_bind hm
       obtain ⟨ag, c0⟩ := gxIdx_fst ci lm
       obtain ⟨a9, fe, hm⟩ := gx_bind hm
       refine G_sub [(0, .slice k d.length g), (4, .slice o c.2.1.length q), (14, .slice F z.1.length C), (17, .slice ac u.2.length ad), (18, iv A.1), (19, iv u.1), (150, .bool (decide (u.1 < (fm.length : Int))))] (by kernel_rfl) (G_dagL 17 [[], [], [], [1, 2], [3], [], [4, 5], [6], [7], [], [], [9, 10], [11], [], [12, 13], [14], [15]] [[], [], [], [], [], [], [], [], [], [], [], [], [], [], [], [], []] [[], [], [], [], [], [], [], [], [], [], [], [], [], [], [], [], []] [[], [], [], [], [], [], [], [], [], [], [], [], [], [], [], [], []] [[], [], [], [], [], [], [], [], [], [], [], [], [], [], [], [], []] [[], [], [], [], [], [], [], [], [], [], [], [], [], [], [], [], []] (fun _ => []) (fun i => ([fun f v s => v = (.slice ac u.2.length ad : Value) ∧ s = [], fun f v s => v = (.slice o c.2.1.length q : Value) ∧ s = [], fun f v s => v = (iv A.1 : Value) ∧ s = [], fun f v s => v = (elemP o (A.1.toNat * 1) : Value) ∧ s = [], fun f v s => v = (.slice ((af 0).1) b4.length ((af 0).2) : Value) ∧ s = [], fun f v s => v = (iv u.1 : Value) ∧ s = [], fun f v s => v = (elemP ((af 0).1) (u.1.toNat * 2) : Value) ∧ s = [], fun f v s => v = (elemP ((af 0).1) (u.1.toNat * 2 + 0) : Value) ∧ s = [], fun f v s => v = (iv a7.Word : Value) ∧ s = [], fun f v s => v = (.slice o c.2.1.length q : Value) ∧ s = [], fun f v s => v = (iv A.1 : Value) ∧ s = [], fun f v s => v = (elemP o (A.1.toNat * 1) : Value) ∧ s = [], fun f v s => v = (.slice ((ag 0).1) b5.length ((ag 0).2) : Value) ∧ s = [], fun f v s => v = (iv u.1 : Value) ∧ s = [], fun f v s => v = (elemP ((ag 0).1) (u.1.toNat * 2) : Value) ∧ s = [], fun f v s => v = (elemP ((ag 0).1) (u.1.toNat * 2 + 1) : Value) ∧ s = [], fun f v s => v = (iv a9.Value : Value) ∧ s = []] : List ((Nat → Value) → Value → Seg → Prop)).getD i (fun _ _ _ => False)) (fun j f v => ∃ s, (fun i => ([fun f v s => v = (.slice ac u.2.length ad : Value) ∧ s = [], fun f v s => v = (.slice o c.2.1.length q : Value) ∧ s = [], fun f v s => v = (iv A.1 : Value) ∧ s = [], fun f v s => v = (elemP o (A.1.toNat * 1) : Value) ∧ s = [], fun f v s => v = (.slice ((af 0).1) b4.length ((af 0).2) : Value) ∧ s = [], fun f v s => v = (iv u.1 : Value) ∧ s = [], fun f v s => v = (elemP ((af 0).1) (u.1.toNat * 2) : Value) ∧ s = [], fun f v s => v = (elemP ((af 0).1) (u.1.toNat * 2 + 0) : Value) ∧ s = [], fun f v s => v = (iv a7.Word : Value) ∧ s = [], fun f v s => v = (.slice o c.2.1.length q : Value) ∧ s = [], fun f v s => v = (iv A.1 : Value) ∧ s = [], fun f v s => v = (elemP o (A.1.toNat * 1) : Value) ∧ s = [], fun f v s => v = (.slice ((ag 0).1) b5.length ((ag 0).2) : Value) ∧ s = [], fun f v s => v = (iv u.1 : Value) ∧ s = [], fun f v s => v = (elemP ((ag 0).1) (u.1.toNat * 2) : Value) ∧ s = [], fun f v s => v = (elemP ((ag 0).1) (u.1.toNat * 2 + 1) : Value) ∧ s = [], fun f v s => v = (iv a9.Value : Value) ∧ s = []] : List ((Nat → Value) → Value → Seg → Prop)).getD i (fun _ _ _ => False)) j f v s) [] [0, 8, 16] [] (fun _ _ _ s h => ⟨s, h⟩) (by kernel_rfl) (by kernel_rfl) (da.preNil 17) (by kernel_rfl) (by kernel_rfl) (by kernel_rfl) (by kernel_rfl) (allOb_cons ?_ (allOb_cons ?_ (allOb_cons ?_ (allOb_cons ?_ (allOb_cons ?_ (allOb_cons ?_ (allOb_cons ?_ (allOb_cons ?_ (allOb_cons ?_ (allOb_cons ?_ (allOb_cons ?_ (allOb_cons ?_ (allOb_cons ?_ (allOb_cons ?_ (allOb_cons ?_ (allOb_cons ?_ (allOb_cons ?_ allOb_nil))))))))))))))))) ?_)
       ·intro ar aq
        intro R mf h7
        exact wR 1 [(153, .slice ac u.2.length ad)] mf (W_nil (oE (.slice ac u.2.length ad) [] ⟨by kernel_rfl, rfl⟩ h7))
       ·intro ar aq
        intro R mg h8
        exact wR 1 [(154, .slice o c.2.1.length q)] mg (W_nil (oE (.slice o c.2.1.length q) [] ⟨by kernel_rfl, rfl⟩ h8))
       ·intro ar aq
        intro R mh h9
        exact wR 1 [(155, iv A.1)] mh (W_nil (oE (iv A.1) [] ⟨by kernel_rfl, rfl⟩ h9))
       ·intro ar aq
        intro v1_ hb1_
        obtain ⟨rfl, _⟩ := hb1_
        intro v2_ hb2_
        obtain ⟨rfl, _⟩ := hb2_
        intro R mi fp
        exact wV (elemP o (A.1.toNat * 1)) mi (eI (ch.rd fp 0 (by kernel_rfl)) (len_fst ci) cz) (W_nil (oE (elemP o (A.1.toNat * 1)) [] ⟨by kernel_rfl, rfl⟩ fp))
       ·intro ar aq
        intro v3_ hb3_
        obtain ⟨rfl, _⟩ := hb3_
        intro R mj fq
        exact wV (.slice ((af 0).1) b4.length ((af 0).2)) mj (eE false 1 0 (A.1.toNat * 1) (ch.rd fq 0 (by kernel_rfl)) cz) (W_nil (oE (.slice ((af 0).1) b4.length ((af 0).2)) [] ⟨by kernel_rfl, rfl⟩ fq))
       ·intro ar aq
        intro R mk ia
        exact wR 1 [(158, iv u.1)] mk (W_nil (oE (iv u.1) [] ⟨by kernel_rfl, rfl⟩ ia))
       ·intro ar aq
        intro v4_ hb4_
        obtain ⟨rfl, _⟩ := hb4_
        intro v5_ hb5_
        obtain ⟨rfl, _⟩ := hb5_
        intro R ml fr
        exact wV (elemP ((af 0).1) (u.1.toNat * 2)) ml (eI ((cg.rd fr 1 (by kernel_rfl)).at_ cz 0 ⟨Store, encStore, b4, (af 0).1, (af 0).2⟩ (by kernel_rfl)) rfl fd) (W_nil (oE (elemP ((af 0).1) (u.1.toNat * 2)) [] ⟨by kernel_rfl, rfl⟩ fr))
       ·intro ar aq
        intro v6_ hb6_
        obtain ⟨rfl, _⟩ := hb6_
        intro R mm fs
        exact wV (elemP ((af 0).1) (u.1.toNat * 2 + 0)) mm (eF 0 (u.1.toNat * 2) 0 ((cg.rd fs 1 (by kernel_rfl)).at_ cz 0 ⟨Store, encStore, b4, (af 0).1, (af 0).2⟩ (by kernel_rfl)) fd) (W_nil (oE (elemP ((af 0).1) (u.1.toNat * 2 + 0)) [] ⟨by kernel_rfl, rfl⟩ fs))
       ·intro ar aq
        intro v7_ hb7_
        obtain ⟨rfl, _⟩ := hb7_
        intro R mn ft
        exact wV (iv a7.Word) mn (eE false 1 0 (u.1.toNat * 2 + 0) ((cg.rd ft 1 (by kernel_rfl)).at_ cz 0 ⟨Store, encStore, b4, (af 0).1, (af 0).2⟩ (by kernel_rfl)) fd) (W_nil (oE (iv a7.Word) [] ⟨by kernel_rfl, rfl⟩ ft))
       ·intro ar aq
        intro R mo ib
        exact wR 1 [(162, .slice o c.2.1.length q)] mo (W_nil (oE (.slice o c.2.1.length q) [] ⟨by kernel_rfl, rfl⟩ ib))
       ·intro ar aq
        intro R mp ic
        exact wR 1 [(163, iv A.1)] mp (W_nil (oE (iv A.1) [] ⟨by kernel_rfl, rfl⟩ ic))
       ·intro ar aq
        intro v9_ hb9_
        obtain ⟨rfl, _⟩ := hb9_
        intro v10_ hb10_
        obtain ⟨rfl, _⟩ := hb10_
        intro R mq fu
        exact wV (elemP o (A.1.toNat * 1)) mq (eI (ch.rd fu 0 (by kernel_rfl)) (len_fst ci) c0) (W_nil (oE (elemP o (A.1.toNat * 1)) [] ⟨by kernel_rfl, rfl⟩ fu))
       ·intro ar aq
        intro v11_ hb11_
        obtain ⟨rfl, _⟩ := hb11_
        intro R mr fv
        exact wV (.slice ((ag 0).1) b5.length ((ag 0).2)) mr (eE false 1 0 (A.1.toNat * 1) (ch.rd fv 0 (by kernel_rfl)) c0) (W_nil (oE (.slice ((ag 0).1) b5.length ((ag 0).2)) [] ⟨by kernel_rfl, rfl⟩ fv))
       ·intro ar aq
        intro R ms ie
        exact wR 1 [(166, iv u.1)] ms (W_nil (oE (iv u.1) [] ⟨by kernel_rfl, rfl⟩ ie))
       ·intro ar aq
        intro v12_ hb12_
        obtain ⟨rfl, _⟩ := hb12_
        intro v13_ hb13_
        obtain ⟨rfl, _⟩ := hb13_
        intro R mt fw
        exact wV (elemP ((ag 0).1) (u.1.toNat * 2)) mt (eI ((cg.rd fw 1 (by kernel_rfl)).at_ c0 0 ⟨Store, encStore, b5, (ag 0).1, (ag 0).2⟩ (by kernel_rfl)) rfl fe) (W_nil (oE (elemP ((ag 0).1) (u.1.toNat * 2)) [] ⟨by kernel_rfl, rfl⟩ fw))
       ·intro ar aq
        intro v14_ hb14_
        obtain ⟨rfl, _⟩ := hb14_
        intro R mu fx
        exact wV (elemP ((ag 0).1) (u.1.toNat * 2 + 1)) mu (eF 1 (u.1.toNat * 2) 1 ((cg.rd fx 1 (by kernel_rfl)).at_ c0 0 ⟨Store, encStore, b5, (ag 0).1, (ag 0).2⟩ (by kernel_rfl)) fe) (W_nil (oE (elemP ((ag 0).1) (u.1.toNat * 2 + 1)) [] ⟨by kernel_rfl, rfl⟩ fx))
       ·intro ar aq
        intro v15_ hb15_
        obtain ⟨rfl, _⟩ := hb15_
        intro R mv fy
        exact wV (iv a9.Value) mv (eE false 1 1 (u.1.toNat * 2 + 1) ((cg.rd fy 1 (by kernel_rfl)).at_ c0 0 ⟨Store, encStore, b5, (ag 0).1, (ag 0).2⟩ (by kernel_rfl)) fe) (W_nil (oE (iv a9.Value) [] ⟨by kernel_rfl, rfl⟩ fy))
       intro ar aq
       intro v0_ hb0_
       obtain ⟨rfl, _⟩ := hb0_
       intro v8_ hb8_
       obtain ⟨rfl, _⟩ := hb8_
       intro v16_ hb16_
       obtain ⟨rfl, _⟩ := hb16_
       intro gy ig
       have fz : Mem [] w gy [cn, co, cp, c7] := ig
       obtain ⟨np, gn, hm⟩ := gx_bind hm
       refine wV (elemP ac (a7.Word.toNat * 1)) gy (eI (e5.rd fz 3 (by kernel_rfl)) rfl gn) (wE false 1 a7.Word.toNat 0 (a7.Word.toNat * 1) np a9.Value (iv a9.Value) 3 fz e5 (gxIdx_spec gn).2 ?_)
       intro mw l6 ki ih
       refine wX 17 (.slice ac u.2.length ad) (.slice ac (u.2.set a7.Word.toNat a9.Value).length ad) (by rw [@List.length_set _ u.2 a7.Word.toNat a9.Value]) (wX 153 (.slice ac u.2.length ad) (.slice ac (u.2.set a7.Word.toNat a9.Value).length ad) (by rw [@List.length_set _ u.2 a7.Word.toNat a9.Value]) (W_nil (N_block (N_then (G_region (wR 3 [(0, .slice k d.length g), (4, .slice o c.2.1.length q), (14, .slice F z.1.length C), (17, .slice ac (u.2.set a7.Word.toNat a9.Value).length ad), (18, iv A.1), (19, iv (w64 (u.1 + 1)))] mw (W_nil ?_)))))))
       obtain rfl := Option.some.inj hm
       exact N_loop fun a ha => ⟨_, rfl, l6, ki, ih.pk [0, 1, 2, 3], ha.s⟩
      refine gF em (G_exit (N_then_exit (N_then_exit (N_block_eq ?_))))
      obtain rfl := Option.some.inj hm
      obtain rfl := ks _ rfl
      exact N_meet fun a ha => ⟨c7, e5, da.pk [0, 1, 2, 3], ha.s⟩
     intro nu mx ⟨ds, kh, ii, jq⟩
     refine N_use jq ?_
     have hm := j7
     refine N_block (N_then (G_region (wR 3 [(0, .slice k d.length g), (4, .slice o c.2.1.length q), (14, .slice F z.1.length C), (17, .slice ac ff.length ad), (18, iv (w64 (A.1 + 1)))] mx (W_nil ?_))))
     obtain rfl := Option.some.inj hm
     exact N_loop fun a ha => ⟨_, rfl, ds, kh, ii.pk [0, 1, 2, 3], ha.s⟩
    refine gF el (G_exit (N_then_exit (N_then_exit (N_block_eq ?_))))
    obtain rfl := Option.some.inj hm
    obtain rfl := kr _ rfl
    exact N_meet fun a ha => ⟨c6, gh, fo.pk [2, 3], ha.s⟩
   intro nv gz ⟨fi, kg, d1, jr⟩
   refine N_use jr ?_
   have hm := j6
   refine N_then (G_seq (G_region (wR 2 [(0, .slice k d.length g), (171, .slice F z.1.length C), (172, .slice ac c3.length ad)] gz ?_)))
   obtain ⟨l0, k3, hm⟩ := gx_bind hm
   refine wC 46 #[.slice F z.1.length C, .slice ac c3.length ad] ((c_l_vInts gz z.1 F C (gg.rd d1 0 (by kernel_rfl)) c3 ac ad (kg.rd d1 1 (by kernel_rfl)) k3).mono ?_)
   rintro e_ g0 ⟨rfl, hg⟩
   have f0 := d1.call0 hg
   refine ⟨_, rfl, ?_⟩
   refine wR 1 [(0, .slice k d.length g), (174, .bool (!l0))] g0 (W_nil (N_then ?_))
   rcases gx_bif hm with ⟨en, hm⟩ | ⟨en, hm⟩
   ·refine gT en (G_seq (G_region (wR 1 [(2, .bool false)] g0 (W_nil (N_then (G_ret (N_meet_ret ?_)))))))
    obtain rfl := Option.some.inj hm
    have hm := e2
    simp only [Sum.elim_inr] at hm
    refine N_then_ret ?_
    obtain rfl := Option.some.inj hm
    exact N_ret [.bool false] (rC RVs_nil) (⟨rfl, f0.pk []⟩)
   refine gF en (G_skip ?_)
   obtain rfl := Option.some.inj hm
   exact N_meet fun a ha => ⟨_, rfl, f0.pk [], ha.s⟩
  refine gF ee (G_skip ?_)
  obtain rfl := Option.some.inj hm
  exact N_meet fun a ha => ⟨_, rfl, bv.pk [], ha.s⟩
 intro nw g1 ⟨go, hout_, f1, js⟩
 refine N_use js ?_
 subst hout_
 have hm := e2
 simp only [Sum.elim_inl] at hm
 refine N_then (G_seq (G_region (wR 1 [(0, .slice k d.length g), (176, .slice k d.length g)] g1 ?_)))
 obtain ⟨b, k4, hm⟩ := gx_bind hm
 refine wC 47 #[.slice k d.length g] ((c_s_DrawRoundsUntil g1 d k g (de.mem0 f1) k4).mono ?_)
 rintro e_ my ⟨J, G, ba, K, H, bb, L, I, bc, x, t, bd, be, rfl, dj, dk, dl, e6, hh⟩
 have ij := f1.call hh
 refine ⟨_, rfl, ?_⟩
 refine wR 5 [(0, .slice k d.length g), (178, .agg #[.slice J b.1.Memory.length G, .slice K b.1.Copy.length H, .slice L b.1.Dirty.length I]), (179, .slice x b.2.1.length t), (180, iv b.2.2.1), (181, iv b.2.2.2)] my (wN (.cells ⟨[.slice none 0 0, .slice none 0 0, .slice none 0 0]⟩ 28 (0, 0)) ij ?_)
 intro N os ik
 refine wS true 3 0 (.agg #[.slice J b.1.Memory.length G, .slice K b.1.Copy.length H, .slice L b.1.Dirty.length I]) 5 [.slice J b.1.Memory.length G, .slice K b.1.Copy.length H, .slice L b.1.Dirty.length I] ik rfl ?_
 intro dx b8
 refine wR 3 [(0, .slice k d.length g), (20, pB N 0), (21, .slice x b.2.1.length t), (22, iv b.2.2.1), (23, iv b.2.2.2)] dx (W_nil (N_then (G_seq (G_region (wV (.agg #[.slice J b.1.Memory.length G, .slice K b.1.Copy.length H, .slice L b.1.Dirty.length I]) dx (eL true 3 0 (b8.blk 5 rfl)) (wR 3 [(0, .slice k d.length g), (20, pB N 0), (21, .slice x b.2.1.length t), (22, iv b.2.2.1), (23, iv b.2.2.2), (183, .agg #[.slice J b.1.Memory.length G, .slice K b.1.Copy.length H, .slice L b.1.Dirty.length I]), (184, .slice x b.2.1.length t), (185, iv b.2.2.1), (186, iv b.2.2.2)] dx ?_))))))
 obtain ⟨y, k5, hm⟩ := gx_bind hm
 refine wC 38 #[.agg #[.slice J b.1.Memory.length G, .slice K b.1.Copy.length H, .slice L b.1.Dirty.length I], .slice x b.2.1.length t, iv b.2.2.1, iv b.2.2.2] ((c_i_RoundsUntil dx b.1 J G (dj.rd b8 0 (by kernel_rfl)) K H (dk.rd b8 1 (by kernel_rfl)) L I (dl.rd b8 2 (by kernel_rfl)) b.2.1 x t (e6.rd b8 3 (by kernel_rfl) 4 (by kernel_rfl)) b.2.2.1 b.2.2.2 k5).mono ?_)
 rintro e_ dy ⟨rfl, hi⟩
 have b9 := b8.call0 hi
 refine ⟨_, rfl, ?_⟩
 refine wR 5 [(0, .slice k d.length g), (20, pB N 0), (21, .slice x b.2.1.length t), (22, iv b.2.2.1), (23, iv b.2.2.2), (24, iv y.1), (25, .bool y.2)] dy (W_nil (N_then (G_seq (G_seq (G_region (wV (.agg #[.slice J b.1.Memory.length G, .slice K b.1.Copy.length H, .slice L b.1.Dirty.length I]) dy (eL true 3 0 (b9.blk 5 rfl)) (wR 3 [(0, .slice k d.length g), (20, pB N 0), (21, .slice x b.2.1.length t), (22, iv b.2.2.1), (23, iv b.2.2.2), (24, iv y.1), (25, .bool y.2), (191, .agg #[.slice J b.1.Memory.length G, .slice K b.1.Copy.length H, .slice L b.1.Dirty.length I]), (192, .slice x b.2.1.length t), (193, iv b.2.2.1), (194, iv b.2.2.2)] dy ?_)))))))
 obtain ⟨c5, k6, hm⟩ := gx_bind hm
 refine wC 36 #[.agg #[.slice J b.1.Memory.length G, .slice K b.1.Copy.length H, .slice L b.1.Dirty.length I], .slice x b.2.1.length t, iv b.2.2.1, iv b.2.2.2] ((c_s_RoundsUntil dy b.1 J G (dj.rd b9 0 (by kernel_rfl)) K H (dk.rd b9 1 (by kernel_rfl)) L I (dl.rd b9 2 (by kernel_rfl)) b.2.1 x t (e6.rd b9 3 (by kernel_rfl) 4 (by kernel_rfl)) b.2.2.1 b.2.2.2 k6).mono ?_)
 rintro e_ dz ⟨rfl, hj⟩
 have f2 := b9.call0 hj
 refine ⟨_, rfl, ?_⟩
 refine wR 5 [(0, .slice k d.length g), (20, pB N 0), (21, .slice x b.2.1.length t), (22, iv b.2.2.1), (23, iv b.2.2.2), (24, iv y.1), (25, .bool y.2), (26, iv c5.1), (27, .bool c5.2)] dz (W_nil (N_then (G_seq ?_)))
 obtain ⟨lr, kj, j2⟩ := gx_bind hm
 refine G_meet (fun a w' => Mem [] w w' [ba, bb, bc, bd, be, [(N, .cells ⟨[.slice J b.1.Memory.length G, .slice K b.1.Copy.length H, .slice L b.1.Dirty.length I]⟩ 28 (0, 0))]] ∧ Sat Try.f11.ntmps [(0, .slice k d.length g), (20, pB N 0), (21, .slice x b.2.1.length t), (22, iv b.2.2.1), (23, iv b.2.2.2), (24, iv y.1), (25, .bool y.2), (205, .bool lr)] a) ?_ ?_
 ·have hm := kj
  refine G_region (wR 4 [(0, .slice k d.length g), (20, pB N 0), (21, .slice x b.2.1.length t), (22, iv b.2.2.1), (23, iv b.2.2.2), (24, iv y.1), (25, .bool y.2), (27, .bool c5.2), (201, .bool (y.1 != c5.1))] dz ?_)
  rcases gx_bif hm with ⟨eo, hm⟩ | ⟨eo, hm⟩
  ·refine wK 201 true eo (wR 4 [(0, .slice k d.length g), (20, pB N 0), (21, .slice x b.2.1.length t), (22, iv b.2.2.1), (23, iv b.2.2.2), (24, iv y.1), (25, .bool y.2), (205, .bool true)] dz (W_nil ?_))
   obtain rfl := Option.some.inj hm
   exact N_meet fun a ha => ⟨f2.pk [0, 1, 2, 3, 4, 5], ha.s⟩
  refine wK 201 false eo (wR 4 [(0, .slice k d.length g), (20, pB N 0), (21, .slice x b.2.1.length t), (22, iv b.2.2.1), (23, iv b.2.2.2), (24, iv y.1), (25, .bool y.2), (205, .bool (!(y.2 == c5.2)))] dz (W_nil ?_))
  obtain rfl := Option.some.inj hm
  exact N_meet fun a ha => ⟨f2.pk [0, 1, 2, 3, 4, 5], ha.s⟩
 intro nx g2 ⟨d2, jt⟩
 refine N_use jt ?_
 have hm := j2
 refine N_then ?_
 rcases gx_bif hm with ⟨ep, hm⟩ | ⟨ep, hm⟩
 ·refine gT ep (G_seq (G_region (wR 1 [(2, .bool false)] g2 (W_nil (N_then (G_ret (N_then_ret ?_)))))))
  obtain rfl := Option.some.inj hm
  exact N_ret [.bool false] (rC RVs_nil) (⟨rfl, d2.pk []⟩)
 refine gF ep (G_skip (N_then (G_seq (G_seq (G_region (wR 1 [(0, .slice k d.length g), (20, pB N 0), (21, .slice x b.2.1.length t), (22, iv b.2.2.1), (23, iv b.2.2.2), (24, iv y.1), (206, .bool y.2)] g2 (W_nil (N_then ?_))))))))
 obtain ⟨lv, kk, e3⟩ := gx_bind hm
 refine G_meet (fun a w' => ∃ (gp : Unit), lv = .inl gp ∧ Mem [] w w' [] ∧ Sat Try.f11.ntmps [(0, .slice k d.length g)] a) ?_ ?_
 ·have hm := kk
  rcases gx_bif hm with ⟨er, hm⟩ | ⟨er, hm⟩
  ·refine gT er (G_seq ?_)
   obtain ⟨ct, ln, hm⟩ := gx_bind hm
   obtain ⟨o8, dn, dm, ge⟩ := id e6
   obtain ⟨l7, gl, gc, lg⟩ := gxSlice_fst dn ln
   obtain ⟨l, k7, hm⟩ := gx_bind hm
   refine G_sub [(0, .slice k d.length g), (20, pB N 0), (21, .slice x b.2.1.length t), (22, iv b.2.2.1), (23, iv b.2.2.2), (24, iv y.1), (206, .bool y.2)] (by kernel_rfl) (G_dagL 13 [[], [], [], [1, 2], [], [0, 3, 4], [], [6], [6], [6], [], [7, 10], [8]] [[], [], [], [], [], [], [], [], [], [], [], [10], []] [[], [], [], [], [], [], [], [], [], [], [], [], []] [[], [], [], [], [], [], [5], [5], [5], [5], [], [5], []] [[], [], [], [], [], [], [5], [5], [], [], [], [5, 10], []] [[], [], [], [], [], [], [], [], [], [], [], [], []] (fun _ => []) (fun i => ([fun f v s => v = (.agg #[.slice J b.1.Memory.length G, .slice K b.1.Copy.length H, .slice L b.1.Dirty.length I] : Value) ∧ s = [], fun f v s => v = (.slice x b.2.1.length t : Value) ∧ s = [], fun f v s => v = (iv y.1 : Value) ∧ s = [], fun f v s => v = (.slice (subP x (0 : Int).toNat t 1) ct.length (t - (0 : Int).toNat) : Value) ∧ s = [], fun f v s => v = (iv b.2.2.1 : Value) ∧ s = [], fun f v s => ∃ (V : Option Addr) (O : Nat) (bf : Seg), ∃ (W : Option Addr) (P : Nat) (bg : Seg), ∃ (X : Option Addr) (Q : Nat) (bh : Seg), v = (.tuple #[.agg #[.slice V l.1.Memory.length O, .slice W l.1.Copy.length P, .slice X l.1.Dirty.length Q], iv l.2.1, .bool l.2.2] : Value) ∧ s = (bf ++ (bg ++ bh)) ∧ ownS Gx.encI l.1.Memory V O bf ∧ ownS Gx.encI l.1.Copy W P bg ∧ ownS Gx.encB l.1.Dirty X Q bh, fun f v s => v = (.tuple #[.agg #[(atPath (f 5) [0, 0]), (atPath (f 5) [0, 1]), (atPath (f 5) [0, 2])], iv l.2.1, .bool l.2.2] : Value) ∧ s = [], fun f v s => v = (.agg #[(atPath (f 5) [0, 0]), (atPath (f 5) [0, 1]), (atPath (f 5) [0, 2])] : Value) ∧ s = [], fun f v s => v = (iv l.2.1 : Value) ∧ s = [], fun f v s => v = (.bool l.2.2 : Value) ∧ s = [], fun f v s => ∃ (av : Nat), v = (pB av 0 : Value) ∧ s = [(av, .cells ⟨[.slice none 0 0, .slice none 0 0, .slice none 0 0]⟩ 28 (0, 0))], fun f v s => v = undef ∧ s = [((blkOf (f 10)), .cells ⟨[(atPath (f 5) [0, 0]), (atPath (f 5) [0, 1]), (atPath (f 5) [0, 2])]⟩ 28 (0, 0))], fun f v s => v = (iv l.2.1 : Value) ∧ s = []] : List ((Nat → Value) → Value → Seg → Prop)).getD i (fun _ _ _ => False)) (fun j f v => ∃ s, (fun i => ([fun f v s => v = (.agg #[.slice J b.1.Memory.length G, .slice K b.1.Copy.length H, .slice L b.1.Dirty.length I] : Value) ∧ s = [], fun f v s => v = (.slice x b.2.1.length t : Value) ∧ s = [], fun f v s => v = (iv y.1 : Value) ∧ s = [], fun f v s => v = (.slice (subP x (0 : Int).toNat t 1) ct.length (t - (0 : Int).toNat) : Value) ∧ s = [], fun f v s => v = (iv b.2.2.1 : Value) ∧ s = [], fun f v s => ∃ (V : Option Addr) (O : Nat) (bf : Seg), ∃ (W : Option Addr) (P : Nat) (bg : Seg), ∃ (X : Option Addr) (Q : Nat) (bh : Seg), v = (.tuple #[.agg #[.slice V l.1.Memory.length O, .slice W l.1.Copy.length P, .slice X l.1.Dirty.length Q], iv l.2.1, .bool l.2.2] : Value) ∧ s = (bf ++ (bg ++ bh)) ∧ ownS Gx.encI l.1.Memory V O bf ∧ ownS Gx.encI l.1.Copy W P bg ∧ ownS Gx.encB l.1.Dirty X Q bh, fun f v s => v = (.tuple #[.agg #[(atPath (f 5) [0, 0]), (atPath (f 5) [0, 1]), (atPath (f 5) [0, 2])], iv l.2.1, .bool l.2.2] : Value) ∧ s = [], fun f v s => v = (.agg #[(atPath (f 5) [0, 0]), (atPath (f 5) [0, 1]), (atPath (f 5) [0, 2])] : Value) ∧ s = [], fun f v s => v = (iv l.2.1 : Value) ∧ s = [], fun f v s => v = (.bool l.2.2 : Value) ∧ s = [], fun f v s => ∃ (av : Nat), v = (pB av 0 : Value) ∧ s = [(av, .cells ⟨[.slice none 0 0, .slice none 0 0, .slice none 0 0]⟩ 28 (0, 0))], fun f v s => v = undef ∧ s = [((blkOf (f 10)), .cells ⟨[(atPath (f 5) [0, 0]), (atPath (f 5) [0, 1]), (atPath (f 5) [0, 2])]⟩ 28 (0, 0))], fun f v s => v = (iv l.2.1 : Value) ∧ s = []] : List ((Nat → Value) → Value → Seg → Prop)).getD i (fun _ _ _ => False)) j f v s) [10] [5, 9, 11] [5, 11] (fun _ _ _ s h => ⟨s, h⟩) (by kernel_rfl) (by kernel_rfl) (d2.preNil 13) (by kernel_rfl) (by kernel_rfl) (by kernel_rfl) (by kernel_rfl) (allOb_cons ?_ (allOb_cons ?_ (allOb_cons ?_ (allOb_cons ?_ (allOb_cons ?_ (allOb_cons ?_ (allOb_cons ?_ (allOb_cons ?_ (allOb_cons ?_ (allOb_cons ?_ (allOb_cons ?_ (allOb_cons ?_ (allOb_cons ?_ allOb_nil))))))))))))) ?_)
   ·intro az a6
    intro R mz f3
    exact wV (.agg #[.slice J b.1.Memory.length G, .slice K b.1.Copy.length H, .slice L b.1.Dirty.length I]) mz (eL true 3 0 (f3.blk 5 rfl)) (W_nil (oE (.agg #[.slice J b.1.Memory.length G, .slice K b.1.Copy.length H, .slice L b.1.Dirty.length I]) [] ⟨by kernel_rfl, rfl⟩ f3))
   ·intro az a6
    intro R m0 il
    exact wR 1 [(209, .slice x b.2.1.length t)] m0 (W_nil (oE (.slice x b.2.1.length t) [] ⟨by kernel_rfl, rfl⟩ il))
   ·intro az a6
    intro R m1 im
    exact wR 1 [(210, iv y.1)] m1 (W_nil (oE (iv y.1) [] ⟨by kernel_rfl, rfl⟩ im))
   ·intro az a6
    intro v1_ hb1_
    obtain ⟨rfl, _⟩ := hb1_
    intro v2_ hb2_
    obtain ⟨rfl, _⟩ := hb2_
    intro R m2 f4
    exact wV (.slice (subP x (0 : Int).toNat t 1) ct.length (t - (0 : Int).toNat)) m2 (E_sliceD (D := (deepL encStore)) _ _ _ _ b.2.1.length 0 y.1 rfl (by kernel_rfl) (Or.inl ⟨rfl, rfl⟩) (Or.inr ⟨_, rfl, by kernel_rfl⟩) (by kernel_rfl) (dm.rd f4 3 (by kernel_rfl)) (len_fst dn) gc gl) (W_nil (oE (.slice (subP x (0 : Int).toNat t 1) ct.length (t - (0 : Int).toNat)) [] ⟨by kernel_rfl, rfl⟩ f4))
   ·intro az a6
    intro R m3 io
    exact wR 1 [(212, iv b.2.2.1)] m3 (W_nil (oE (iv b.2.2.1) [] ⟨by kernel_rfl, rfl⟩ io))
   ·intro az a6
    intro v0_ hb0_
    obtain ⟨rfl, _⟩ := hb0_
    intro v3_ hb3_
    obtain ⟨rfl, _⟩ := hb3_
    intro v4_ hb4_
    obtain ⟨rfl, _⟩ := hb4_
    intro R m4 ca
    refine wC 41 #[.agg #[.slice J b.1.Memory.length G, .slice K b.1.Copy.length H, .slice L b.1.Dirty.length I], .slice (subP x (0 : Int).toNat t 1) ct.length (t - (0 : Int).toNat), iv b.2.2.1] ((c_i_RunRounds m4 b.1 J G (dj.rd ca 0 (by kernel_rfl)) K H (dk.rd ca 1 (by kernel_rfl)) L I (dl.rd ca 2 (by kernel_rfl)) ct (subP x (0 : Int).toNat t 1) (t - (0 : Int).toNat) ⟨l7, gl, ((dm.rd ca 3 (by kernel_rfl)).sliceM gc), ((ge.rd ca 4 (by kernel_rfl)).sub (lg _))⟩ b.2.2.1 k7).mono ?_)
    rintro e_ ot ⟨V, O, bf, W, P, bg, X, Q, bh, rfl, e7, e8, e9, hk⟩
    refine ⟨_, rfl, ?_⟩
    exact W_nil (oE (.tuple #[.agg #[.slice V l.1.Memory.length O, .slice W l.1.Copy.length P, .slice X l.1.Dirty.length Q], iv l.2.1, .bool l.2.2]) (bf ++ (bg ++ bh)) ⟨V, O, bf, W, P, bg, X, Q, bh, rfl, rfl, e7, e8, e9⟩ (Mem.callMid ca (hk.permF (by simp))))
   ·intro az a6
    intro v5_ hb5_
    obtain ⟨_, V, O, _, W, P, _, X, Q, _, rfl, _⟩ := hb5_
    intro R m5 ip
    exact wR 1 [(207, .tuple #[.agg #[.slice V l.1.Memory.length O, .slice W l.1.Copy.length P, .slice X l.1.Dirty.length Q], iv l.2.1, .bool l.2.2])] m5 (W_nil (oE (.tuple #[.agg #[.slice V l.1.Memory.length O, .slice W l.1.Copy.length P, .slice X l.1.Dirty.length Q], iv l.2.1, .bool l.2.2]) [] ⟨by kernel_rfl, rfl⟩ ip))
   ·intro az a6
    intro v5_ hb5_
    obtain ⟨_, V, O, _, W, P, _, X, Q, _, rfl, _⟩ := hb5_
    intro v6_ hb6_
    obtain ⟨hv6_, _⟩ := hb6_
    obtain rfl : v6_ = (.tuple #[.agg #[.slice V l.1.Memory.length O, .slice W l.1.Copy.length P, .slice X l.1.Dirty.length Q], iv l.2.1, .bool l.2.2] : Value) := hv6_.trans (by kernel_rfl)
    intro R m6 iq
    exact wR 1 [(214, .agg #[.slice V l.1.Memory.length O, .slice W l.1.Copy.length P, .slice X l.1.Dirty.length Q])] m6 (W_nil (oE (.agg #[.slice V l.1.Memory.length O, .slice W l.1.Copy.length P, .slice X l.1.Dirty.length Q]) [] ⟨by kernel_rfl, rfl⟩ iq))
   ·intro az a6
    intro v5_ hb5_
    obtain ⟨_, V, O, _, W, P, _, X, Q, _, rfl, _⟩ := hb5_
    intro v6_ hb6_
    obtain ⟨hv6_, _⟩ := hb6_
    obtain rfl : v6_ = (.tuple #[.agg #[.slice V l.1.Memory.length O, .slice W l.1.Copy.length P, .slice X l.1.Dirty.length Q], iv l.2.1, .bool l.2.2] : Value) := hv6_.trans (by kernel_rfl)
    intro R m7 ir
    exact wR 1 [(215, iv l.2.1)] m7 (W_nil (oE (iv l.2.1) [] ⟨by kernel_rfl, rfl⟩ ir))
   ·intro az a6
    intro v5_ hb5_
    obtain ⟨_, V, O, _, W, P, _, X, Q, _, rfl, _⟩ := hb5_
    intro v6_ hb6_
    obtain ⟨hv6_, _⟩ := hb6_
    obtain rfl : v6_ = (.tuple #[.agg #[.slice V l.1.Memory.length O, .slice W l.1.Copy.length P, .slice X l.1.Dirty.length Q], iv l.2.1, .bool l.2.2] : Value) := hv6_.trans (by kernel_rfl)
    intro R m8 it
    exact wR 1 [(216, .bool l.2.2)] m8 (W_nil (oE (.bool l.2.2) [] ⟨by kernel_rfl, rfl⟩ it))
   ·intro az a6
    intro R ou iu
    refine wN (.cells ⟨[.slice none 0 0, .slice none 0 0, .slice none 0 0]⟩ 28 (0, 0)) iu ?_
    intro av ov iw
    exact W_nil (oE (pB av 0) [(av, .cells ⟨[.slice none 0 0, .slice none 0 0, .slice none 0 0]⟩ 28 (0, 0))] ⟨av, rfl, rfl⟩ (Mem.mid iw))
   ·intro az a6
    intro v5_ hb5_
    obtain ⟨_, V, O, _, W, P, _, X, Q, _, rfl, _⟩ := hb5_
    intro v7_ hb7_
    obtain ⟨hv7_, _⟩ := hb7_
    obtain rfl : v7_ = (.agg #[.slice V l.1.Memory.length O, .slice W l.1.Copy.length P, .slice X l.1.Dirty.length Q] : Value) := hv7_.trans (by kernel_rfl)
    intro v10_ hb10_
    obtain ⟨av, rfl, hs10_⟩ := hb10_
    intro R g3 ix
    have db : Mem [] w g3 ([ba, bb, bc, bd, be, [(N, .cells ⟨[.slice J b.1.Memory.length G, .slice K b.1.Copy.length H, .slice L b.1.Dirty.length I]⟩ 28 (0, 0))]] ++ ([[]] ++ ([(az 10)] ++ ([] ++ R)))) := ix
    rw [hs10_] at db
    replace db : Mem [] w g3 ([ba, bb, bc, bd, be, [(N, .cells ⟨[.slice J b.1.Memory.length G, .slice K b.1.Copy.length H, .slice L b.1.Dirty.length I]⟩ 28 (0, 0))]] ++ ([[]] ++ ([[(av, .cells ⟨[.slice none 0 0, .slice none 0 0, .slice none 0 0]⟩ 28 (0, 0))]] ++ ([] ++ R)))) := db.permF (by simp)
    refine wS true 3 0 (.agg #[.slice V l.1.Memory.length O, .slice W l.1.Copy.length P, .slice X l.1.Dirty.length Q]) 7 [.slice V l.1.Memory.length O, .slice W l.1.Copy.length P, .slice X l.1.Dirty.length Q] db rfl ?_
    intro ow iy
    exact W_nil (ob_none [(av, .cells ⟨[.slice V l.1.Memory.length O, .slice W l.1.Copy.length P, .slice X l.1.Dirty.length Q]⟩ 28 (0, 0))] rfl ⟨rfl, by kernel_rfl⟩ (Mem.takeOver iy))
   ·intro az a6
    intro v8_ hb8_
    obtain ⟨rfl, _⟩ := hb8_
    intro R m9 iz
    exact wR 1 [(29, iv l.2.1)] m9 (W_nil (oE (iv l.2.1) [] ⟨by kernel_rfl, rfl⟩ iz))
   intro az a6
   intro v10_ hb10_
   obtain ⟨_, av, rfl, hs10_⟩ := hb10_
   intro v5_ hb5_
   obtain ⟨V, O, bf, W, P, bg, X, Q, bh, rfl, hs5_, e7, e8, e9⟩ := hb5_
   intro v9_ hb9_
   obtain ⟨rfl, _⟩ := hb9_
   intro v11_ hb11_
   obtain ⟨rfl, hs11_⟩ := hb11_
   replace hs11_ := hs11_.trans (show _ = [(av, .cells ⟨[.slice V l.1.Memory.length O, .slice W l.1.Copy.length P, .slice X l.1.Dirty.length Q]⟩ 28 (0, 0))] by kernel_rfl)
   intro c8 i0
   have bm : Mem [] w c8 [ba, bb, bc, bd, be, [(N, .cells ⟨[.slice J b.1.Memory.length G, .slice K b.1.Copy.length H, .slice L b.1.Dirty.length I]⟩ 28 (0, 0))], (az 5), (az 11)] := i0
   rw [hs5_] at bm
   rw [hs11_] at bm
   replace bm : Mem [] w c8 [ba, bb, bc, bd, be, [(N, .cells ⟨[.slice J b.1.Memory.length G, .slice K b.1.Copy.length H, .slice L b.1.Dirty.length I]⟩ 28 (0, 0))], bf, bg, bh, [(av, .cells ⟨[.slice V l.1.Memory.length O, .slice W l.1.Copy.length P, .slice X l.1.Dirty.length Q]⟩ 28 (0, 0))]] := bm.permF (by simp)
   refine wR 1 [(0, .slice k d.length g), (20, pB N 0), (21, .slice x b.2.1.length t), (22, iv b.2.2.1), (23, iv b.2.2.2), (24, iv y.1), (28, pB av 0), (30, .bool l.2.2)] c8 (W_nil (N_then (G_seq (G_region (wV (.agg #[.slice V l.1.Memory.length O, .slice W l.1.Copy.length P, .slice X l.1.Dirty.length Q]) c8 (eL true 3 0 (bm.blk 9 rfl)) ?_)))))
   obtain ⟨b1, k8, hm⟩ := gx_bind hm
   refine wC 26 #[.agg #[.slice V l.1.Memory.length O, .slice W l.1.Copy.length P, .slice X l.1.Dirty.length Q]] ((c_i_DirtyWords c8 l.1 V O (e7.rd bm 6 (by kernel_rfl)) W P (e8.rd bm 7 (by kernel_rfl)) X Q (e9.rd bm 8 (by kernel_rfl)) k8).mono ?_)
   rintro e_ cr ⟨fg, d8, oc, rfl, n4, hl⟩
   have d3 := bm.call hl
   refine ⟨_, rfl, ?_⟩
   refine wR 5 [(0, .slice k d.length g), (20, pB N 0), (21, .slice x b.2.1.length t), (22, iv b.2.2.1), (23, iv b.2.2.2), (24, iv y.1), (30, .bool l.2.2), (31, .slice fg b1.1.length d8), (32, .bool b1.2)] cr (W_nil (N_then (G_seq (G_seq ?_))))
   obtain ⟨ls, kl, j3⟩ := gx_bind hm
   refine G_meet (fun a w' => Mem [] w w' [ba, bb, bc, bd, be, [(N, .cells ⟨[.slice J b.1.Memory.length G, .slice K b.1.Copy.length H, .slice L b.1.Dirty.length I]⟩ 28 (0, 0))]] ∧ Sat Try.f11.ntmps [(0, .slice k d.length g), (20, pB N 0), (21, .slice x b.2.1.length t), (22, iv b.2.2.1), (23, iv b.2.2.2), (24, iv y.1), (233, .bool ls)] a) ?_ ?_
   ·have hm := kl
    refine G_region (wR 3 [(0, .slice k d.length g), (20, pB N 0), (21, .slice x b.2.1.length t), (22, iv b.2.2.1), (23, iv b.2.2.2), (24, iv y.1), (31, .slice fg b1.1.length d8), (32, .bool b1.2), (224, .bool (!l.2.2))] cr ?_)
    rcases gx_bif hm with ⟨es, hm⟩ | ⟨es, hm⟩
    ·refine wK 224 true es (wR 9 [(0, .slice k d.length g), (20, pB N 0), (21, .slice x b.2.1.length t), (22, iv b.2.2.1), (23, iv b.2.2.2), (24, iv y.1), (233, .bool true)] cr (W_nil ?_))
     obtain rfl := Option.some.inj hm
     exact N_meet fun a ha => ⟨d3.pk [0, 1, 2, 3, 4, 5], ha.s⟩
    refine wK 224 false es (wR 4 [(0, .slice k d.length g), (20, pB N 0), (21, .slice x b.2.1.length t), (22, iv b.2.2.1), (23, iv b.2.2.2), (24, iv y.1), (31, .slice fg b1.1.length d8), (228, .bool (!b1.2))] cr ?_)
    rcases gx_bif hm with ⟨et, hm⟩ | ⟨et, hm⟩
    ·refine wK 228 true et (wR 5 [(0, .slice k d.length g), (20, pB N 0), (21, .slice x b.2.1.length t), (22, iv b.2.2.1), (23, iv b.2.2.2), (24, iv y.1), (233, .bool true)] cr (W_nil ?_))
     obtain rfl := Option.some.inj hm
     exact N_meet fun a ha => ⟨d3.pk [0, 1, 2, 3, 4, 5], ha.s⟩
    refine wK 228 false et (wR 5 [(0, .slice k d.length g), (20, pB N 0), (21, .slice x b.2.1.length t), (22, iv b.2.2.1), (23, iv b.2.2.2), (24, iv y.1), (233, .bool (decide ((b1.1.length : Int) > b.2.2.2)))] cr (W_nil ?_))
    obtain rfl := Option.some.inj hm
    exact N_meet fun a ha => ⟨d3.pk [0, 1, 2, 3, 4, 5], ha.s⟩
   intro ny g4 ⟨d4, ju⟩
   refine N_use ju ?_
   have hm := j3
   refine N_then ?_
   rcases gx_bif hm with ⟨eu, hm⟩ | ⟨eu, hm⟩
   ·refine gT eu (G_seq (G_region (wR 1 [(2, .bool false)] g4 (W_nil (N_then (G_ret (N_then_ret (N_meet_ret ?_))))))))
    obtain rfl := Option.some.inj hm
    have hm := e3
    simp only [Sum.elim_inr] at hm
    refine N_then_ret ?_
    obtain rfl := Option.some.inj hm
    exact N_ret [.bool false] (rC RVs_nil) (⟨rfl, d4.pk []⟩)
   refine gF eu (G_skip (N_then (G_seq (G_region (wR 2 [(0, .slice k d.length g), (20, pB N 0), (21, .slice x b.2.1.length t), (22, iv b.2.2.1), (23, iv b.2.2.2), (24, iv y.1), (235, .bool (decide (y.1 > 0)))] g4 (W_nil (N_then ?_)))))))
   obtain ⟨lw, km, gf⟩ := gx_bind hm
   refine G_meet (fun a w' => ∃ (gq : Unit), lw = .inl gq ∧ Mem [] w w' [] ∧ Sat Try.f11.ntmps [(0, .slice k d.length g)] a) ?_ ?_
   ·have hm := km
    rcases gx_bif hm with ⟨ev, hm⟩ | ⟨ev, hm⟩
    ·refine gT ev (G_seq ?_)
     obtain ⟨cu, lo, hm⟩ := gx_bind hm
     obtain ⟨l8, gm, gd, lh⟩ := gxSlice_fst dn lo
     obtain ⟨m, k9, hm⟩ := gx_bind hm
     refine G_sub [(0, .slice k d.length g), (20, pB N 0), (21, .slice x b.2.1.length t), (22, iv b.2.2.1), (23, iv b.2.2.2), (24, iv y.1), (235, .bool (decide (y.1 > 0)))] (by kernel_rfl) (G_dagL 14 [[], [], [], [2], [1, 3], [], [0, 4, 5], [], [7], [7], [7], [], [8, 11], [9]] [[], [], [], [], [], [], [], [], [], [], [], [], [11], []] [[], [], [], [], [], [], [], [], [], [], [], [], [], []] [[], [], [], [], [], [], [], [6], [6], [6], [6], [], [6], []] [[], [], [], [], [], [], [], [6], [6], [], [], [], [6, 11], []] [[], [], [], [], [], [], [], [], [], [], [], [], [], []] (fun _ => []) (fun i => ([fun f v s => v = (.agg #[.slice J b.1.Memory.length G, .slice K b.1.Copy.length H, .slice L b.1.Dirty.length I] : Value) ∧ s = [], fun f v s => v = (.slice x b.2.1.length t : Value) ∧ s = [], fun f v s => v = (iv y.1 : Value) ∧ s = [], fun f v s => v = (iv (w64 (y.1 - 1)) : Value) ∧ s = [], fun f v s => v = (.slice (subP x (0 : Int).toNat t 1) cu.length (t - (0 : Int).toNat) : Value) ∧ s = [], fun f v s => v = (iv b.2.2.1 : Value) ∧ s = [], fun f v s => ∃ (Y : Option Addr) (S : Nat) (bi : Seg), ∃ (Z : Option Addr) (T : Nat) (bj : Seg), ∃ (aa : Option Addr) (U : Nat) (bk : Seg), v = (.tuple #[.agg #[.slice Y m.1.Memory.length S, .slice Z m.1.Copy.length T, .slice aa m.1.Dirty.length U], iv m.2.1, .bool m.2.2] : Value) ∧ s = (bi ++ (bj ++ bk)) ∧ ownS Gx.encI m.1.Memory Y S bi ∧ ownS Gx.encI m.1.Copy Z T bj ∧ ownS Gx.encB m.1.Dirty aa U bk, fun f v s => v = (.tuple #[.agg #[(atPath (f 6) [0, 0]), (atPath (f 6) [0, 1]), (atPath (f 6) [0, 2])], iv m.2.1, .bool m.2.2] : Value) ∧ s = [], fun f v s => v = (.agg #[(atPath (f 6) [0, 0]), (atPath (f 6) [0, 1]), (atPath (f 6) [0, 2])] : Value) ∧ s = [], fun f v s => v = (iv m.2.1 : Value) ∧ s = [], fun f v s => v = (.bool m.2.2 : Value) ∧ s = [], fun f v s => ∃ (aw : Nat), v = (pB aw 0 : Value) ∧ s = [(aw, .cells ⟨[.slice none 0 0, .slice none 0 0, .slice none 0 0]⟩ 28 (0, 0))], fun f v s => v = undef ∧ s = [((blkOf (f 11)), .cells ⟨[(atPath (f 6) [0, 0]), (atPath (f 6) [0, 1]), (atPath (f 6) [0, 2])]⟩ 28 (0, 0))], fun f v s => v = (iv m.2.1 : Value) ∧ s = []] : List ((Nat → Value) → Value → Seg → Prop)).getD i (fun _ _ _ => False)) (fun j f v => ∃ s, (fun i => ([fun f v s => v = (.agg #[.slice J b.1.Memory.length G, .slice K b.1.Copy.length H, .slice L b.1.Dirty.length I] : Value) ∧ s = [], fun f v s => v = (.slice x b.2.1.length t : Value) ∧ s = [], fun f v s => v = (iv y.1 : Value) ∧ s = [], fun f v s => v = (iv (w64 (y.1 - 1)) : Value) ∧ s = [], fun f v s => v = (.slice (subP x (0 : Int).toNat t 1) cu.length (t - (0 : Int).toNat) : Value) ∧ s = [], fun f v s => v = (iv b.2.2.1 : Value) ∧ s = [], fun f v s => ∃ (Y : Option Addr) (S : Nat) (bi : Seg), ∃ (Z : Option Addr) (T : Nat) (bj : Seg), ∃ (aa : Option Addr) (U : Nat) (bk : Seg), v = (.tuple #[.agg #[.slice Y m.1.Memory.length S, .slice Z m.1.Copy.length T, .slice aa m.1.Dirty.length U], iv m.2.1, .bool m.2.2] : Value) ∧ s = (bi ++ (bj ++ bk)) ∧ ownS Gx.encI m.1.Memory Y S bi ∧ ownS Gx.encI m.1.Copy Z T bj ∧ ownS Gx.encB m.1.Dirty aa U bk, fun f v s => v = (.tuple #[.agg #[(atPath (f 6) [0, 0]), (atPath (f 6) [0, 1]), (atPath (f 6) [0, 2])], iv m.2.1, .bool m.2.2] : Value) ∧ s = [], fun f v s => v = (.agg #[(atPath (f 6) [0, 0]), (atPath (f 6) [0, 1]), (atPath (f 6) [0, 2])] : Value) ∧ s = [], fun f v s => v = (iv m.2.1 : Value) ∧ s = [], fun f v s => v = (.bool m.2.2 : Value) ∧ s = [], fun f v s => ∃ (aw : Nat), v = (pB aw 0 : Value) ∧ s = [(aw, .cells ⟨[.slice none 0 0, .slice none 0 0, .slice none 0 0]⟩ 28 (0, 0))], fun f v s => v = undef ∧ s = [((blkOf (f 11)), .cells ⟨[(atPath (f 6) [0, 0]), (atPath (f 6) [0, 1]), (atPath (f 6) [0, 2])]⟩ 28 (0, 0))], fun f v s => v = (iv m.2.1 : Value) ∧ s = []] : List ((Nat → Value) → Value → Seg → Prop)).getD i (fun _ _ _ => False)) j f v s) [11] [6, 10, 12] [6, 12] (fun _ _ _ s h => ⟨s, h⟩) (by kernel_rfl) (by kernel_rfl) (d4.preNil 14) (by kernel_rfl) (by kernel_rfl) (by kernel_rfl) (by kernel_rfl) (allOb_cons ?_ (allOb_cons ?_ (allOb_cons ?_ (allOb_cons ?_ (allOb_cons ?_ (allOb_cons ?_ (allOb_cons ?_ (allOb_cons ?_ (allOb_cons ?_ (allOb_cons ?_ (allOb_cons ?_ (allOb_cons ?_ (allOb_cons ?_ (allOb_cons ?_ allOb_nil)))))))))))))) ?_)
     ·intro au a4
      intro R na f5
      exact wV (.agg #[.slice J b.1.Memory.length G, .slice K b.1.Copy.length H, .slice L b.1.Dirty.length I]) na (eL true 3 0 (f5.blk 5 rfl)) (W_nil (oE (.agg #[.slice J b.1.Memory.length G, .slice K b.1.Copy.length H, .slice L b.1.Dirty.length I]) [] ⟨by kernel_rfl, rfl⟩ f5))
     ·intro au a4
      intro R nb i1
      exact wR 1 [(238, .slice x b.2.1.length t)] nb (W_nil (oE (.slice x b.2.1.length t) [] ⟨by kernel_rfl, rfl⟩ i1))
     ·intro au a4
      intro R nc i2
      exact wR 1 [(239, iv y.1)] nc (W_nil (oE (iv y.1) [] ⟨by kernel_rfl, rfl⟩ i2))
     ·intro au a4
      intro v2_ hb2_
      obtain ⟨rfl, _⟩ := hb2_
      intro R nd i3
      exact wR 1 [(240, iv (w64 (y.1 - 1)))] nd (W_nil (oE (iv (w64 (y.1 - 1))) [] ⟨by kernel_rfl, rfl⟩ i3))
     ·intro au a4
      intro v1_ hb1_
      obtain ⟨rfl, _⟩ := hb1_
      intro v3_ hb3_
      obtain ⟨rfl, _⟩ := hb3_
      intro R nf f6
      exact wV (.slice (subP x (0 : Int).toNat t 1) cu.length (t - (0 : Int).toNat)) nf (E_sliceD (D := (deepL encStore)) _ _ _ _ b.2.1.length 0 (w64 (y.1 - 1)) rfl (by kernel_rfl) (Or.inl ⟨rfl, rfl⟩) (Or.inr ⟨_, rfl, by kernel_rfl⟩) (by kernel_rfl) (dm.rd f6 3 (by kernel_rfl)) (len_fst dn) gd gm) (W_nil (oE (.slice (subP x (0 : Int).toNat t 1) cu.length (t - (0 : Int).toNat)) [] ⟨by kernel_rfl, rfl⟩ f6))
     ·intro au a4
      intro R ng i4
      exact wR 1 [(242, iv b.2.2.1)] ng (W_nil (oE (iv b.2.2.1) [] ⟨by kernel_rfl, rfl⟩ i4))
     ·intro au a4
      intro v0_ hb0_
      obtain ⟨rfl, _⟩ := hb0_
      intro v4_ hb4_
      obtain ⟨rfl, _⟩ := hb4_
      intro v5_ hb5_
      obtain ⟨rfl, _⟩ := hb5_
      intro R nh cb
      refine wC 41 #[.agg #[.slice J b.1.Memory.length G, .slice K b.1.Copy.length H, .slice L b.1.Dirty.length I], .slice (subP x (0 : Int).toNat t 1) cu.length (t - (0 : Int).toNat), iv b.2.2.1] ((c_i_RunRounds nh b.1 J G (dj.rd cb 0 (by kernel_rfl)) K H (dk.rd cb 1 (by kernel_rfl)) L I (dl.rd cb 2 (by kernel_rfl)) cu (subP x (0 : Int).toNat t 1) (t - (0 : Int).toNat) ⟨l8, gm, ((dm.rd cb 3 (by kernel_rfl)).sliceM gd), ((ge.rd cb 4 (by kernel_rfl)).sub (lh _))⟩ b.2.2.1 k9).mono ?_)
      rintro e_ ox ⟨Y, S, bi, Z, T, bj, aa, U, bk, rfl, fa, fb, fc, hn⟩
      refine ⟨_, rfl, ?_⟩
      exact W_nil (oE (.tuple #[.agg #[.slice Y m.1.Memory.length S, .slice Z m.1.Copy.length T, .slice aa m.1.Dirty.length U], iv m.2.1, .bool m.2.2]) (bi ++ (bj ++ bk)) ⟨Y, S, bi, Z, T, bj, aa, U, bk, rfl, rfl, fa, fb, fc⟩ (Mem.callMid cb (hn.permF (by simp))))
     ·intro au a4
      intro v6_ hb6_
      obtain ⟨_, Y, S, _, Z, T, _, aa, U, _, rfl, _⟩ := hb6_
      intro R ni i5
      exact wR 1 [(236, .tuple #[.agg #[.slice Y m.1.Memory.length S, .slice Z m.1.Copy.length T, .slice aa m.1.Dirty.length U], iv m.2.1, .bool m.2.2])] ni (W_nil (oE (.tuple #[.agg #[.slice Y m.1.Memory.length S, .slice Z m.1.Copy.length T, .slice aa m.1.Dirty.length U], iv m.2.1, .bool m.2.2]) [] ⟨by kernel_rfl, rfl⟩ i5))
     ·intro au a4
      intro v6_ hb6_
      obtain ⟨_, Y, S, _, Z, T, _, aa, U, _, rfl, _⟩ := hb6_
      intro v7_ hb7_
      obtain ⟨hv7_, _⟩ := hb7_
      obtain rfl : v7_ = (.tuple #[.agg #[.slice Y m.1.Memory.length S, .slice Z m.1.Copy.length T, .slice aa m.1.Dirty.length U], iv m.2.1, .bool m.2.2] : Value) := hv7_.trans (by kernel_rfl)
      intro R nj i6
      exact wR 1 [(244, .agg #[.slice Y m.1.Memory.length S, .slice Z m.1.Copy.length T, .slice aa m.1.Dirty.length U])] nj (W_nil (oE (.agg #[.slice Y m.1.Memory.length S, .slice Z m.1.Copy.length T, .slice aa m.1.Dirty.length U]) [] ⟨by kernel_rfl, rfl⟩ i6))
     ·intro au a4
      intro v6_ hb6_
      obtain ⟨_, Y, S, _, Z, T, _, aa, U, _, rfl, _⟩ := hb6_
      intro v7_ hb7_
      obtain ⟨hv7_, _⟩ := hb7_
      obtain rfl : v7_ = (.tuple #[.agg #[.slice Y m.1.Memory.length S, .slice Z m.1.Copy.length T, .slice aa m.1.Dirty.length U], iv m.2.1, .bool m.2.2] : Value) := hv7_.trans (by kernel_rfl)
      intro R nk i7
      exact wR 1 [(245, iv m.2.1)] nk (W_nil (oE (iv m.2.1) [] ⟨by kernel_rfl, rfl⟩ i7))
     ·intro au a4
      intro v6_ hb6_
      obtain ⟨_, Y, S, _, Z, T, _, aa, U, _, rfl, _⟩ := hb6_
      intro v7_ hb7_
      obtain ⟨hv7_, _⟩ := hb7_
      obtain rfl : v7_ = (.tuple #[.agg #[.slice Y m.1.Memory.length S, .slice Z m.1.Copy.length T, .slice aa m.1.Dirty.length U], iv m.2.1, .bool m.2.2] : Value) := hv7_.trans (by kernel_rfl)
      intro R nl i8
      exact wR 1 [(246, .bool m.2.2)] nl (W_nil (oE (.bool m.2.2) [] ⟨by kernel_rfl, rfl⟩ i8))
     ·intro au a4
      intro R oy i9
      refine wN (.cells ⟨[.slice none 0 0, .slice none 0 0, .slice none 0 0]⟩ 28 (0, 0)) i9 ?_
      intro aw oz ja
      exact W_nil (oE (pB aw 0) [(aw, .cells ⟨[.slice none 0 0, .slice none 0 0, .slice none 0 0]⟩ 28 (0, 0))] ⟨aw, rfl, rfl⟩ (Mem.mid ja))
     ·intro au a4
      intro v6_ hb6_
      obtain ⟨_, Y, S, _, Z, T, _, aa, U, _, rfl, _⟩ := hb6_
      intro v8_ hb8_
      obtain ⟨hv8_, _⟩ := hb8_
      obtain rfl : v8_ = (.agg #[.slice Y m.1.Memory.length S, .slice Z m.1.Copy.length T, .slice aa m.1.Dirty.length U] : Value) := hv8_.trans (by kernel_rfl)
      intro v11_ hb11_
      obtain ⟨aw, rfl, hs11_⟩ := hb11_
      intro R g5 jb
      have dc : Mem [] w g5 ([ba, bb, bc, bd, be, [(N, .cells ⟨[.slice J b.1.Memory.length G, .slice K b.1.Copy.length H, .slice L b.1.Dirty.length I]⟩ 28 (0, 0))]] ++ ([[]] ++ ([(au 11)] ++ ([] ++ R)))) := jb
      rw [hs11_] at dc
      replace dc : Mem [] w g5 ([ba, bb, bc, bd, be, [(N, .cells ⟨[.slice J b.1.Memory.length G, .slice K b.1.Copy.length H, .slice L b.1.Dirty.length I]⟩ 28 (0, 0))]] ++ ([[]] ++ ([[(aw, .cells ⟨[.slice none 0 0, .slice none 0 0, .slice none 0 0]⟩ 28 (0, 0))]] ++ ([] ++ R)))) := dc.permF (by simp)
      refine wS true 3 0 (.agg #[.slice Y m.1.Memory.length S, .slice Z m.1.Copy.length T, .slice aa m.1.Dirty.length U]) 7 [.slice Y m.1.Memory.length S, .slice Z m.1.Copy.length T, .slice aa m.1.Dirty.length U] dc rfl ?_
      intro o0 jc
      exact W_nil (ob_none [(aw, .cells ⟨[.slice Y m.1.Memory.length S, .slice Z m.1.Copy.length T, .slice aa m.1.Dirty.length U]⟩ 28 (0, 0))] rfl ⟨rfl, by kernel_rfl⟩ (Mem.takeOver jc))
     ·intro au a4
      intro v9_ hb9_
      obtain ⟨rfl, _⟩ := hb9_
      intro R nm jd
      exact wR 1 [(34, iv m.2.1)] nm (W_nil (oE (iv m.2.1) [] ⟨by kernel_rfl, rfl⟩ jd))
     intro au a4
     intro v11_ hb11_
     obtain ⟨_, aw, rfl, hs11_⟩ := hb11_
     intro v6_ hb6_
     obtain ⟨Y, S, bi, Z, T, bj, aa, U, bk, rfl, hs6_, fa, fb, fc⟩ := hb6_
     intro v10_ hb10_
     obtain ⟨rfl, _⟩ := hb10_
     intro v12_ hb12_
     obtain ⟨rfl, hs12_⟩ := hb12_
     replace hs12_ := hs12_.trans (show _ = [(aw, .cells ⟨[.slice Y m.1.Memory.length S, .slice Z m.1.Copy.length T, .slice aa m.1.Dirty.length U]⟩ 28 (0, 0))] by kernel_rfl)
     intro c9 je
     have bn : Mem [] w c9 [ba, bb, bc, bd, be, [(N, .cells ⟨[.slice J b.1.Memory.length G, .slice K b.1.Copy.length H, .slice L b.1.Dirty.length I]⟩ 28 (0, 0))], (au 6), (au 12)] := je
     rw [hs6_] at bn
     rw [hs12_] at bn
     replace bn : Mem [] w c9 [ba, bb, bc, bd, be, [(N, .cells ⟨[.slice J b.1.Memory.length G, .slice K b.1.Copy.length H, .slice L b.1.Dirty.length I]⟩ 28 (0, 0))], bi, bj, bk, [(aw, .cells ⟨[.slice Y m.1.Memory.length S, .slice Z m.1.Copy.length T, .slice aa m.1.Dirty.length U]⟩ 28 (0, 0))]] := bn.permF (by simp)
     refine wR 1 [(0, .slice k d.length g), (23, iv b.2.2.2), (33, pB aw 0), (35, .bool m.2.2)] c9 (W_nil (N_then (G_seq (G_region (wV (.agg #[.slice Y m.1.Memory.length S, .slice Z m.1.Copy.length T, .slice aa m.1.Dirty.length U]) c9 (eL true 3 0 (bn.blk 9 rfl)) ?_)))))
     obtain ⟨b2, la, hm⟩ := gx_bind hm
     refine wC 26 #[.agg #[.slice Y m.1.Memory.length S, .slice Z m.1.Copy.length T, .slice aa m.1.Dirty.length U]] ((c_i_DirtyWords c9 m.1 Y S (fa.rd bn 6 (by kernel_rfl)) Z T (fb.rd bn 7 (by kernel_rfl)) aa U (fc.rd bn 8 (by kernel_rfl)) la).mono ?_)
     rintro e_ cs ⟨fh, d9, od, rfl, n5, ho⟩
     have d5 := bn.call ho
     refine ⟨_, rfl, ?_⟩
     refine wR 5 [(0, .slice k d.length g), (23, iv b.2.2.2), (35, .bool m.2.2), (36, .slice fh b2.1.length d9), (37, .bool b2.2)] cs (W_nil (N_then (G_seq ?_)))
     obtain ⟨lt, kn, j4⟩ := gx_bind hm
     refine G_meet (fun a w' => Mem [] w w' [] ∧ Sat Try.f11.ntmps [(0, .slice k d.length g), (263, .bool lt)] a) ?_ ?_
     ·have hm := kn
      refine G_region (wR 3 [(0, .slice k d.length g), (23, iv b.2.2.2), (36, .slice fh b2.1.length d9), (37, .bool b2.2), (254, .bool (!m.2.2))] cs ?_)
      rcases gx_bif hm with ⟨ew, hm⟩ | ⟨ew, hm⟩
      ·refine wK 254 true ew (wR 9 [(0, .slice k d.length g), (263, .bool true)] cs (W_nil ?_))
       obtain rfl := Option.some.inj hm
       exact N_meet fun a ha => ⟨d5.pk [], ha.s⟩
      refine wK 254 false ew (wR 4 [(0, .slice k d.length g), (23, iv b.2.2.2), (36, .slice fh b2.1.length d9), (258, .bool (!b2.2))] cs ?_)
      rcases gx_bif hm with ⟨ex, hm⟩ | ⟨ex, hm⟩
      ·refine wK 258 true ex (wR 5 [(0, .slice k d.length g), (263, .bool true)] cs (W_nil ?_))
       obtain rfl := Option.some.inj hm
       exact N_meet fun a ha => ⟨d5.pk [], ha.s⟩
      refine wK 258 false ex (wR 5 [(0, .slice k d.length g), (263, .bool (decide ((b2.1.length : Int) ≤ b.2.2.2)))] cs (W_nil ?_))
      obtain rfl := Option.some.inj hm
      exact N_meet fun a ha => ⟨d5.pk [], ha.s⟩
     intro nz nn ⟨f7, jv⟩
     refine N_use jv ?_
     have hm := j4
     refine N_then ?_
     rcases gx_bif hm with ⟨ey, hm⟩ | ⟨ey, hm⟩
     ·refine gT ey (G_seq (G_region (wR 1 [(2, .bool false)] nn (W_nil (N_then (G_ret (N_meet_ret ?_)))))))
      obtain rfl := Option.some.inj hm
      have hm := gf
      simp only [Sum.elim_inr] at hm
      refine N_meet_ret ?_
      obtain rfl := Option.some.inj hm
      have hm := e3
      simp only [Sum.elim_inr] at hm
      refine N_then_ret ?_
      obtain rfl := Option.some.inj hm
      exact N_ret [.bool false] (rC RVs_nil) (⟨rfl, f7.pk []⟩)
     refine gF ey (G_skip ?_)
     obtain rfl := Option.some.inj hm
     exact N_meet fun a ha => ⟨_, rfl, f7.pk [], ha.s⟩
    refine gF ev (G_skip ?_)
    obtain rfl := Option.some.inj hm
    exact N_meet fun a ha => ⟨_, rfl, d4.pk [], ha.s⟩
   intro n0 o1 ⟨gq, hout_, jf, jw⟩
   refine N_use jw ?_
   subst hout_
   have hm := gf
   simp only [Sum.elim_inl] at hm
   obtain rfl := Option.some.inj hm
   exact N_meet fun a ha => ⟨_, rfl, jf.pk [], ha.s⟩
  refine gF er (G_skip ?_)
  obtain rfl := Option.some.inj hm
  exact N_meet fun a ha => ⟨_, rfl, d2.pk [], ha.s⟩
 intro n1 g6 ⟨gp, hout_, f8, jx⟩
 refine N_use jx ?_
 subst hout_
 have hm := e3
 simp only [Sum.elim_inl] at hm
 refine N_then (G_seq (G_region (wR 1 [(264, .slice k d.length g)] g6 ?_)))
 obtain ⟨aj, lb, hm⟩ := gx_bind hm
 refine wC 48 #[.slice k d.length g] ((c_s_DrawFinishCopy g6 d k g (de.mem0 f8) lb).mono ?_)
 rintro e_ o2 ⟨br, bo, oe, bs, bp, og, bt, bq, oh, rfl, gi, gj, gk, hp⟩
 have jg := f8.call hp
 refine ⟨_, rfl, ?_⟩
 refine wN (.cells ⟨[.slice none 0 0, .slice none 0 0, .slice none 0 0]⟩ 28 (0, 0)) jg ?_
 intro jk o3 jh
 refine wS true 3 0 (.agg #[.slice br aj.Memory.length bo, .slice bs aj.Copy.length bp, .slice bt aj.Dirty.length bq]) 3 [.slice br aj.Memory.length bo, .slice bs aj.Copy.length bp, .slice bt aj.Dirty.length bq] jh rfl ?_
 intro g7 cw
 refine W_nil (N_then (G_seq (G_region (wV (.agg #[.slice br aj.Memory.length bo, .slice bs aj.Copy.length bp, .slice bt aj.Dirty.length bq]) g7 (eL true 3 0 (cw.blk 3 rfl)) ?_))))
 obtain ⟨a5, lc, hm⟩ := gx_bind hm
 refine wC 29 #[.agg #[.slice br aj.Memory.length bo, .slice bs aj.Copy.length bp, .slice bt aj.Dirty.length bq]] ((c_i_FinishCopy g7 aj br bo (gi.rd cw 0 (by kernel_rfl)) bs bp (gj.rd cw 1 (by kernel_rfl)) bt bq (gk.rd cw 2 (by kernel_rfl)) lc).mono ?_)
 rintro e_ fk ⟨b0, bz, oi, rfl, ko, hq⟩
 have cx := cw.call hq
 refine ⟨_, rfl, ?_⟩
 refine wR 7 [(38, pB jk 0), (39, .slice b0 a5.1.length bz), (40, iv a5.2.1), (41, .bool a5.2.2)] fk (W_nil (N_then (G_seq (G_region (wV (.agg #[.slice br aj.Memory.length bo, .slice bs aj.Copy.length bp, .slice bt aj.Dirty.length bq]) fk (eL true 3 0 (cx.blk 3 rfl)) ?_)))))
 obtain ⟨a8, ld, hm⟩ := gx_bind hm
 refine wC 28 #[.agg #[.slice br aj.Memory.length bo, .slice bs aj.Copy.length bp, .slice bt aj.Dirty.length bq]] ((c_s_FinishCopy fk aj br bo (gi.rd cx 0 (by kernel_rfl)) bs bp (gj.rd cx 1 (by kernel_rfl)) bt bq (gk.rd cx 2 (by kernel_rfl)) ld).mono ?_)
 rintro e_ b3 ⟨cm, cf, oj, rfl, kp, hr⟩
 have cy := cx.call hr
 refine ⟨_, rfl, ?_⟩
 refine wR 7 [(39, .slice b0 a5.1.length bz), (40, iv a5.2.1), (41, .bool a5.2.2), (42, .slice cm a8.1.length cf), (43, iv a8.2.1), (44, .bool a8.2.2)] b3 (W_nil (N_then (G_seq ?_)))
 obtain ⟨gr, kq, j5⟩ := gx_bind hm
 refine G_meet (fun a w' => Mem [] w w' [] ∧ Sat Try.f11.ntmps [(2, .bool gr)] a) ?_ ?_
 ·have hm := kq
  refine G_region (wR 4 [(39, .slice b0 a5.1.length bz), (40, iv a5.2.1), (42, .slice cm a8.1.length cf), (43, iv a8.2.1), (281, .bool (a5.2.2 == a8.2.2))] b3 ?_)
  rcases gx_bif hm with ⟨ez, hm⟩ | ⟨ez, hm⟩
  ·refine wK 281 true ez (wR 5 [(39, .slice b0 a5.1.length bz), (42, .slice cm a8.1.length cf), (286, .bool (a5.2.1 == a8.2.1))] b3 ?_)
   rcases gx_bif hm with ⟨e0, hm⟩ | ⟨e0, hm⟩
   ·refine wK 286 true e0 (wR 2 [(286, .bool true), (287, .slice b0 a5.1.length bz), (288, .slice cm a8.1.length cf)] b3 ?_)
    obtain ⟨l1, le, hm⟩ := gx_bind hm
    refine wC 46 #[.slice b0 a5.1.length bz, .slice cm a8.1.length cf] ((c_l_vInts b3 a5.1 b0 bz (ko.rd cy 4 (by kernel_rfl)) a8.1 cm cf (kp.rd cy 5 (by kernel_rfl)) le).mono ?_)
    rintro e_ no ⟨rfl, hs⟩
    have ji := cy.call0 hs
    refine ⟨_, rfl, ?_⟩
    refine wR 2 [(2, .bool l1)] no (W_nil ?_)
    obtain rfl := Option.some.inj hm
    exact N_meet fun a ha => ⟨ji.pk [], ha.s⟩
   refine wK 286 false e0 (wR 5 [(2, .bool false)] b3 (W_nil ?_))
   obtain rfl := Option.some.inj hm
   exact N_meet fun a ha => ⟨cy.pk [], ha.s⟩
  refine wK 281 false ez (wR 10 [(2, .bool false)] b3 (W_nil ?_))
  obtain rfl := Option.some.inj hm
  exact N_meet fun a ha => ⟨cy.pk [], ha.s⟩
 intro n2 o4 ⟨jj, jy⟩
 refine N_use jy ?_
 have hm := j5
 refine N_then (G_ret ?_)
 obtain rfl := Option.some.inj hm
 exact N_ret [.bool gr] (rC RVs_nil) (⟨rfl, jj.pk []⟩)
theorem c_s_DrawCopyRound (w : World) (n : List Int) (u : Option Addr) (t : Nat) (y : rdS Gx.encU8 w n u t) {r : Copying × Int} (hm : M.s_DrawCopyRound n = some r) :
  Calls Try.prog 49 #[.slice u n.length t] w fun e w' => ∃ (H : Option Addr) (B : Nat) (N : Seg), ∃ (I : Option Addr) (C : Nat) (O : Seg), ∃ (J : Option Addr) (D : Nat) (P : Seg), e = .returned (.tuple #[.agg #[.slice H r.1.Memory.length B, .slice I r.1.Copy.length C, .slice J r.1.Dirty.length D], iv r.2]) ∧ ownS Gx.encI r.1.Memory H B N ∧ ownS Gx.encI r.1.Copy I C O ∧ ownS Gx.encB r.1.Dirty J D P ∧ Mem [] w w' [N, O, P] := by
 unfold M.s_DrawCopyRound at hm
 refine cE Try.func49 ?_
 have M0 := Mem.refl [] w
 refine G_seq (G_region (wN (.cells ⟨[.slice none 0 0, .slice none 0 0, .slice none 0 0]⟩ 28 (0, 0)) M0 ?_))
 intro c Q T
 refine wR 1 [(0, .slice u n.length t), (2, pB c 0)] Q (W_nil (N_then (G_seq (G_region (wR 2 [(2, pB c 0), (6, .agg #[.slice u n.length t, iv 0, .int .u64 0])] Q (wN (.cells ⟨[.slice u n.length t, iv 0, .int .u64 0]⟩ 99 (0, 0)) T ?_))))))
 intro d z x
 refine wR 1 [(2, pB c 0), (4, pB d 0)] z (W_nil (N_then (G_seq (G_region (wR 1 [(2, pB c 0), (4, pB d 0), (8, pB d 0)] z ?_)))))
 obtain ⟨a, Z, hm⟩ := gx_bind hm
 refine wC 84 #[pB d 0] ((c_s_l1Cur_copying z (⟨n, 0, 0⟩ : l1Cur) u t (y.mem0 x) d (x.hasPick [1]) (x.nodupPick [1] (by kernel_rfl)) (apartX.old0 y x [1]) Z).mono ?_)
 rintro e_ ae ⟨j, f, ab, l, h, ac, m, i, ad, rfl, W, X, Y, R⟩
 have U := x.callF' [1] [0] (by kernel_rfl) R
 refine ⟨_, rfl, ?_⟩
 refine wR 1 [(2, pB c 0), (9, .agg #[.slice j a.1.Memory.length f, .slice l a.1.Copy.length h, .slice m a.1.Dirty.length i]), (10, pB d 0)] ae (wL (E := Gx.encI) [0, 1, 2, 3, 12, 13, (-1), 4] 8 [iv 0, iv 1, iv 2, iv 3, iv 12, iv 13, iv (-1), iv 4] 3 U ?_)
 intro K F ah af G q
 obtain ⟨L, aa, hm⟩ := gx_bind hm
 refine wC 86 #[pB d 0, .slice K [0, 1, 2, 3, 12, 13, (-1), 4].length F] ((c_s_l1Cur_among af (⟨n, a.2.1, a.2.2⟩ : l1Cur) u t (y.mem0 q) d [0, 1, 2, 3, 12, 13, (-1), 4] K F (G.rd q 5 (by kernel_rfl)) (q.hasPick [1]) (q.nodupPick [1] (by kernel_rfl)) (apartX.old0 y q [1]) (apartX.own G q 5 (by kernel_rfl) [1] (by kernel_rfl)) aa).mono ?_)
 rintro e_ ai ⟨rfl, S⟩
 have V := q.callF' [1] [0, 2, 3, 4, 5] (by kernel_rfl) S
 refine ⟨_, rfl, ?_⟩
 refine wS true 3 0 (.agg #[.slice j a.1.Memory.length f, .slice l a.1.Copy.length h, .slice m a.1.Dirty.length i]) 0 [.slice j a.1.Memory.length f, .slice l a.1.Copy.length h, .slice m a.1.Dirty.length i] V rfl ?_
 intro ag A
 refine wR 1 [(2, pB c 0), (3, iv L.1)] ag (W_nil (N_then (G_ret ?_)))
 obtain rfl := Option.some.inj hm
 exact N_ret [.agg #[.slice j a.1.Memory.length f, .slice l a.1.Copy.length h, .slice m a.1.Dirty.length i], iv L.1] (RVs_cons (RV_cell (g := true) (k := 3) (b := c) (off := 0) (cs := [.slice j a.1.Memory.length f, .slice l a.1.Copy.length h, .slice m a.1.Dirty.length i]) (e := 28) (fr := (0, 0)) (v := .agg #[.slice j a.1.Memory.length f, .slice l a.1.Copy.length h, .slice m a.1.Dirty.length i]) (A.blk 0 (b := c) (o := .cells ⟨[.slice j a.1.Memory.length f, .slice l a.1.Copy.length h, .slice m a.1.Dirty.length i]⟩ 28 (0, 0)) (by kernel_rfl)) (by kernel_rfl) (by kernel_rfl) (by kernel_rfl)) (rC RVs_nil)) (⟨j, f, ab, l, h, ac, m, i, ad, rfl, W, X, Y, A.pk [1, 2, 3]⟩)
theorem c_s_DrawStoreWord (w : World) (x : List Int) (z : Option Addr) (y : Nat) (H : rdS Gx.encU8 w x z y) {r : Copying × Store} (hm : M.s_DrawStoreWord x = some r) :
  Calls Try.prog 50 #[.slice z x.length y] w fun e w' => ∃ (V : Option Addr) (S : Nat) (Y : Seg), ∃ (W : Option Addr) (T : Nat) (Z : Seg), ∃ (X : Option Addr) (U : Nat) (aa : Seg), e = .returned (.tuple #[.agg #[.slice V r.1.Memory.length S, .slice W r.1.Copy.length T, .slice X r.1.Dirty.length U], .agg #[iv r.2.Word, iv r.2.Value]]) ∧ ownS Gx.encI r.1.Memory V S Y ∧ ownS Gx.encI r.1.Copy W T Z ∧ ownS Gx.encB r.1.Dirty X U aa ∧ Mem [] w w' [Y, Z, aa] := by
 unfold M.s_DrawStoreWord at hm
 refine cE Try.func50 ?_
 have M0 := Mem.refl [] w
 refine G_seq (G_region (wN (.cells ⟨[.slice none 0 0, .slice none 0 0, .slice none 0 0]⟩ 28 (0, 0)) M0 ?_))
 intro A a6 ad
 refine wN (.cells ⟨[iv 0, iv 0]⟩ 46 (0, 0)) ad ?_
 intro B av ae
 refine W_nil (N_then (G_seq (G_region (wR 2 [(2, pB A 0), (3, pB B 0), (7, .agg #[.slice z x.length y, iv 0, .int .u64 0])] av (wN (.cells ⟨[.slice z x.length y, iv 0, .int .u64 0]⟩ 99 (0, 0)) ae ?_)))))
 intro m N F
 refine wR 1 [(2, pB A 0), (3, pB B 0), (4, pB m 0)] N (W_nil (N_then (G_seq (G_region (wR 1 [(2, pB A 0), (3, pB B 0), (4, pB m 0), (9, pB m 0)] N ?_)))))
 obtain ⟨a, ar, hm⟩ := gx_bind hm
 refine wC 84 #[pB m 0] ((c_s_l1Cur_copying N (⟨x, 0, 0⟩ : l1Cur) z y (H.mem0 F) m (F.hasPick [2]) (F.nodupPick [2] (by kernel_rfl)) (apartX.old0 H F [2]) ar).mono ?_)
 rintro e_ a7 ⟨l, d, J, t, n, K, u, q, L, rfl, ao, ap, aq, ab⟩
 have af := F.callF' [2] [0, 1] (by kernel_rfl) ab
 refine ⟨_, rfl, ?_⟩
 refine wN (.cells ⟨[.slice none 0 0, .slice none 0 0, .slice none 0 0]⟩ 28 (0, 0)) af ?_
 intro C a8 ag
 refine wS true 3 0 (.agg #[.slice l a.1.Memory.length d, .slice t a.1.Copy.length n, .slice u a.1.Dirty.length q]) 6 [.slice l a.1.Memory.length d, .slice t a.1.Copy.length n, .slice u a.1.Dirty.length q] ag rfl ?_
 intro aw ah
 refine W_nil (N_then (G_seq ?_))
 obtain ⟨c, au, hm⟩ := gx_bind hm
 have ai : Mem [] w aw ([[(A, .cells ⟨[.slice none 0 0, .slice none 0 0, .slice none 0 0]⟩ 28 (0, 0))], [(B, .cells ⟨[iv 0, iv 0]⟩ 46 (0, 0))], J, K, L, [(C, .cells ⟨[.slice l a.1.Memory.length d, .slice t a.1.Copy.length n, .slice u a.1.Dirty.length q]⟩ 28 (0, 0))]] ++ (List.range 6).map (fun i => ([[], [], [], [], [], [(m, .cells ⟨[.slice z x.length y, iv a.2.1, .int .u64 a.2.2]⟩ 99 (0, 0))]] : List Seg).getD i [])) := ah.pk [0, 1, 3, 4, 5, 6, 300000, 300001, 300002, 300003, 300004, 2]
 refine G_sub [(2, pB A 0), (3, pB B 0), (4, pB m 0), (5, pB C 0), (9, pB m 0), (10, .agg #[.slice l a.1.Memory.length d, .slice t a.1.Copy.length n, .slice u a.1.Dirty.length q])] (by kernel_rfl) (G_dagL 6 [[], [], [], [2], [3], [1, 4]] [[], [], [], [], [], []] [[], [], [], [], [], []] [[], [], [], [], [], []] [[], [], [], [], [], []] [[], [], [], [], [], []] (fun i => ([[], [], [], [], [], [(m, .cells ⟨[.slice z x.length y, iv a.2.1, .int .u64 a.2.2]⟩ 99 (0, 0))]] : List Seg).getD i []) (fun i => ([fun f v s => v = (.agg #[.slice l a.1.Memory.length d, .slice t a.1.Copy.length n, .slice u a.1.Dirty.length q] : Value) ∧ s = [], fun f v s => v = (pB m 0 : Value) ∧ s = [], fun f v s => v = (pB C 0 : Value) ∧ s = [], fun f v s => v = (.slice l a.1.Memory.length d : Value) ∧ s = [], fun f v s => v = (iv (a.1.Memory.length : Int) : Value) ∧ s = [], fun f v s => v = (.agg #[iv c.1.Word, iv c.1.Value] : Value) ∧ s = [(m, .cells ⟨[.slice z x.length y, iv c.2.1, .int .u64 c.2.2]⟩ 99 (0, 0))]] : List ((Nat → Value) → Value → Seg → Prop)).getD i (fun _ _ _ => False)) (fun j f v => ∃ s, (fun i => ([fun f v s => v = (.agg #[.slice l a.1.Memory.length d, .slice t a.1.Copy.length n, .slice u a.1.Dirty.length q] : Value) ∧ s = [], fun f v s => v = (pB m 0 : Value) ∧ s = [], fun f v s => v = (pB C 0 : Value) ∧ s = [], fun f v s => v = (.slice l a.1.Memory.length d : Value) ∧ s = [], fun f v s => v = (iv (a.1.Memory.length : Int) : Value) ∧ s = [], fun f v s => v = (.agg #[iv c.1.Word, iv c.1.Value] : Value) ∧ s = [(m, .cells ⟨[.slice z x.length y, iv c.2.1, .int .u64 c.2.2]⟩ 99 (0, 0))]] : List ((Nat → Value) → Value → Seg → Prop)).getD i (fun _ _ _ => False)) j f v s) [] [0, 5] [5] (fun _ _ _ s h => ⟨s, h⟩) (by kernel_rfl) (by kernel_rfl) ai (by kernel_rfl) (by kernel_rfl) (by kernel_rfl) (by kernel_rfl) (allOb_cons ?_ (allOb_cons ?_ (allOb_cons ?_ (allOb_cons ?_ (allOb_cons ?_ (allOb_cons ?_ allOb_nil)))))) ?_)
 ·intro D E
  intro R ax O
  exact wV (.agg #[.slice l a.1.Memory.length d, .slice t a.1.Copy.length n, .slice u a.1.Dirty.length q]) ax (eL true 3 0 (O.blk 5 rfl)) (W_nil (oE (.agg #[.slice l a.1.Memory.length d, .slice t a.1.Copy.length n, .slice u a.1.Dirty.length q]) [] ⟨by kernel_rfl, rfl⟩ O))
 ·intro D E
  intro R ay aj
  exact wR 1 [(12, pB m 0)] ay (W_nil (oE (pB m 0) [] ⟨by kernel_rfl, rfl⟩ aj))
 ·intro D E
  intro R az ak
  exact wR 1 [(13, pB C 0)] az (W_nil (oE (pB C 0) [] ⟨by kernel_rfl, rfl⟩ ak))
 ·intro D E
  intro v2_ hb2_
  obtain ⟨rfl, _⟩ := hb2_
  intro R a0 P
  exact wV (.slice l a.1.Memory.length d) a0 (eL false 1 0 (P.blk 5 rfl)) (W_nil (oE (.slice l a.1.Memory.length d) [] ⟨by kernel_rfl, rfl⟩ P))
 ·intro D E
  intro v3_ hb3_
  obtain ⟨rfl, _⟩ := hb3_
  intro R a3 al
  exact wR 1 [(15, iv (a.1.Memory.length : Int))] a3 (W_nil (oE (iv (a.1.Memory.length : Int)) [] ⟨by kernel_rfl, rfl⟩ al))
 ·intro D E
  intro v1_ hb1_
  obtain ⟨rfl, _⟩ := hb1_
  intro v4_ hb4_
  obtain ⟨rfl, _⟩ := hb4_
  intro R a4 G
  refine wC 90 #[pB m 0, iv (a.1.Memory.length : Int)] ((c_s_l1Cur_storeIn a4 (⟨x, a.2.1, a.2.2⟩ : l1Cur) z y (H.mem0 G) m (a.1.Memory.length : Int) (G.hasPick [6]) (G.nodupPick [6] (by kernel_rfl)) (apartX.old0 H G [6]) au).mono ?_)
  rintro e_ a9 ⟨rfl, ac⟩
  refine ⟨_, rfl, ?_⟩
  exact W_nil (oE (.agg #[iv c.1.Word, iv c.1.Value]) [(m, .cells ⟨[.slice z x.length y, iv c.2.1, .int .u64 c.2.2]⟩ 99 (0, 0))] ⟨rfl, rfl⟩ (Mem.callMidF G ac))
 intro D E
 intro v0_ hb0_
 obtain ⟨rfl, _⟩ := hb0_
 intro v5_ hb5_
 obtain ⟨rfl, hs5_⟩ := hb5_
 intro a5 am
 have Q : Mem [] w a5 [[(A, .cells ⟨[.slice none 0 0, .slice none 0 0, .slice none 0 0]⟩ 28 (0, 0))], [(B, .cells ⟨[iv 0, iv 0]⟩ 46 (0, 0))], J, K, L, [(C, .cells ⟨[.slice l a.1.Memory.length d, .slice t a.1.Copy.length n, .slice u a.1.Dirty.length q]⟩ 28 (0, 0))], (D 5)] := am
 rw [hs5_] at Q
 refine wS true 3 0 (.agg #[.slice l a.1.Memory.length d, .slice t a.1.Copy.length n, .slice u a.1.Dirty.length q]) 0 [.slice l a.1.Memory.length d, .slice t a.1.Copy.length n, .slice u a.1.Dirty.length q] Q rfl ?_
 intro ba an
 refine wS true 2 0 (.agg #[iv c.1.Word, iv c.1.Value]) 1 [iv c.1.Word, iv c.1.Value] an rfl ?_
 intro bb I
 refine W_nil (N_then (G_ret ?_))
 obtain rfl := Option.some.inj hm
 exact N_ret [.agg #[.slice l a.1.Memory.length d, .slice t a.1.Copy.length n, .slice u a.1.Dirty.length q], .agg #[iv c.1.Word, iv c.1.Value]] (RVs_cons (RV_cell (g := true) (k := 3) (b := A) (off := 0) (cs := [.slice l a.1.Memory.length d, .slice t a.1.Copy.length n, .slice u a.1.Dirty.length q]) (e := 28) (fr := (0, 0)) (v := .agg #[.slice l a.1.Memory.length d, .slice t a.1.Copy.length n, .slice u a.1.Dirty.length q]) (I.blk 0 (b := A) (o := .cells ⟨[.slice l a.1.Memory.length d, .slice t a.1.Copy.length n, .slice u a.1.Dirty.length q]⟩ 28 (0, 0)) (by kernel_rfl)) (by kernel_rfl) (by kernel_rfl) (by kernel_rfl)) (RVs_cons (RV_cell (g := true) (k := 2) (b := B) (off := 0) (cs := [iv c.1.Word, iv c.1.Value]) (e := 46) (fr := (0, 0)) (v := .agg #[iv c.1.Word, iv c.1.Value]) (I.blk 1 (b := B) (o := .cells ⟨[iv c.1.Word, iv c.1.Value]⟩ 46 (0, 0)) (by kernel_rfl)) (by kernel_rfl) (by kernel_rfl) (by kernel_rfl)) RVs_nil)) (⟨l, d, J, t, n, K, u, q, L, rfl, ao, ap, aq, I.pk [2, 3, 4]⟩)
theorem c_l_vHas (w : World) (b : List Int) (c : Option Addr) (d : Nat) (l : rdS Gx.encI w b c d) (g : Int) {r : Bool} (hm : M.l_vHas b g = some r) :
  Calls Try.prog 51 #[.slice c b.length d, iv g] w fun e w' => e = .returned (.bool r) ∧ Mem [] w w' [] := by
 unfold M.l_vHas at hm
 refine cE Try.func51 ?_
 have M0 := Mem.refl [] w
 refine G_seq (G_region (wR 1 [(0, .slice c b.length d), (1, iv g)] w (W_nil (N_then (G_seq (G_seq (G_region (wR 1 [(0, .slice c b.length d), (1, iv g), (5, iv 0)] w (W_nil (N_then ?_))))))))))
 obtain ⟨z, y, m⟩ := gx_bind hm
 refine G_meet (fun a w' => ∃ (q : Unit), z = .inl q ∧ Mem [] w w' [] ∧ Sat Try.f51.ntmps [] a) ?_ ?_
 ·refine G_block (G_while (σ := Int) (ρ := (Unit) ⊕ (Bool)) (fun f a w' => Mem [] w w' [] ∧ Sat Try.f51.ntmps [(0, .slice c b.length d), (1, iv g), (5, iv f)] a) y (fun a ha => ⟨M0.pk [], ha.s⟩) ?_)
  clear hm
  intro f D hm n B h ⟨i, v⟩
  refine G_use v (G_seq (G_seq (G_region (wR 4 [(0, .slice c b.length d), (1, iv g), (5, iv f), (9, .bool (decide (f < (b.length : Int))))] h (W_nil (N_then ?_))))))
  rcases gx_bif hm with ⟨j, hm⟩ | ⟨j, hm⟩
  ·refine gT j (G_skip (N_then (G_seq (G_block (G_seq (G_region (wR 2 [(0, .slice c b.length d), (1, iv g), (5, iv f), (12, .slice c b.length d), (13, iv f)] h ?_)))))))
   obtain ⟨t, o, hm⟩ := gx_bind hm
   refine wV (elemP c (f.toNat * 1)) h (eI (l.mem0 i) rfl o) (wV (iv t) h (eE false 1 0 (f.toNat * 1) (l.mem0 i) o) (wR 2 [(0, .slice c b.length d), (1, iv g), (5, iv f), (17, .bool (t == g))] h (W_nil (N_then ?_))))
   rcases gx_bif hm with ⟨k, hm⟩ | ⟨k, hm⟩
   ·refine gT k (G_seq (G_region (wR 1 [(4, .bool true)] h (W_nil (N_then (G_ret (N_block_ret (N_then_ret (N_then_ret ?_)))))))))
    obtain rfl := Option.some.inj hm
    obtain rfl := n _ rfl
    have hm := m; simp only [Sum.elim_inr] at hm
    refine N_block_ret (N_meet_ret (N_then_ret ?_))
    obtain rfl := Option.some.inj hm
    exact N_ret [.bool true] (rC RVs_nil) (⟨rfl, i.pk []⟩)
   refine gF k (G_skip (N_block (N_then (G_region (wR 3 [(0, .slice c b.length d), (1, iv g), (5, iv (w64 (f + 1)))] h (W_nil ?_))))))
   obtain rfl := Option.some.inj hm
   exact N_loop fun a ha => ⟨_, rfl, i.pk [], ha.s⟩
  refine gF j (G_exit (N_then_exit (N_then_exit (N_block_eq ?_))))
  obtain rfl := Option.some.inj hm
  obtain rfl := n _ rfl
  exact N_meet fun a ha => ⟨_, rfl, i.pk [], ha.s⟩
 intro C A ⟨q, hout_, u, x⟩
 refine N_use x ?_
 subst hout_
 have hm := m; simp only [Sum.elim_inl] at hm
 refine N_then (G_seq (G_region (wR 1 [(4, .bool false)] A (W_nil (N_then (G_ret ?_))))))
 obtain rfl := Option.some.inj hm
 exact N_ret [.bool false] (rC RVs_nil) (⟨rfl, u.pk []⟩)
theorem c_s_DrawStartCopy (w : World) (a : List Int) (c : Option Addr) (b : Nat) (k : rdS Gx.encU8 w a c b) {r : (List Int)} (hm : M.s_DrawStartCopy a = some r) :
  Calls Try.prog 52 #[.slice c a.length b] w fun e w' => ∃ (l : Option Addr) (j : Nat) (n : Seg), e = .returned (.slice l r.length j) ∧ ownS Gx.encI r l j n ∧ Mem [] w w' [n] := by
 unfold M.s_DrawStartCopy at hm
 refine cE Try.func52 ?_
 have M0 := Mem.refl [] w
 refine G_seq (G_region (wR 1 [(0, .slice c a.length b)] w (W_nil (N_then (G_seq (G_region (wR 2 [(5, .agg #[.slice c a.length b, iv 0, .int .u64 0])] w (wN (.cells ⟨[.slice c a.length b, iv 0, .int .u64 0]⟩ 99 (0, 0)) M0 ?_))))))))
 intro f i d
 refine wR 1 [(3, pB f 0)] i (W_nil (N_then (G_seq (G_region (wR 1 [(7, pB f 0)] i ?_)))))
 obtain ⟨m, u, hm⟩ := gx_bind hm
 refine wC 91 #[pB f 0] ((c_s_l1Cur_memory i (⟨a, 0, 0⟩ : l1Cur) c b (k.mem0 d) f (d.hasPick [0]) (d.nodupPick [0] (by kernel_rfl)) (apartX.old0 k d [0]) u).mono ?_)
 rintro e_ x ⟨h, g, v, rfl, t, o⟩
 have q := d.callF' [0] [] (by kernel_rfl) o
 refine ⟨_, rfl, ?_⟩
 refine wR 1 [(2, .slice h m.1.length g)] x (W_nil (N_then (G_ret ?_)))
 obtain rfl := Option.some.inj hm
 exact N_ret [.slice h m.1.length g] (rC RVs_nil) (⟨h, g, v, rfl, t, q.pk [1]⟩)
theorem c_s_DrawDirtyWords (w : World) (l : List Int) (n : Option Addr) (m : Nat) (J : rdS Gx.encU8 w l n m) {r : Copying} (hm : M.s_DrawDirtyWords l = some r) :
  Calls Try.prog 53 #[.slice n l.length m] w fun e w' => ∃ (A : Option Addr) (x : Nat) (D : Seg), ∃ (B : Option Addr) (y : Nat) (E : Seg), ∃ (C : Option Addr) (z : Nat) (F : Seg), e = .returned (.agg #[.slice A r.Memory.length x, .slice B r.Copy.length y, .slice C r.Dirty.length z]) ∧ ownS Gx.encI r.Memory A x D ∧ ownS Gx.encI r.Copy B y E ∧ ownS Gx.encB r.Dirty C z F ∧ Mem [] w w' [D, E, F] := by
 unfold M.s_DrawDirtyWords at hm
 refine cE Try.func53 ?_
 have M0 := Mem.refl [] w
 refine G_seq (G_region (wN (.cells ⟨[.slice none 0 0, .slice none 0 0, .slice none 0 0]⟩ 28 (0, 0)) M0 ?_))
 intro q G t
 refine W_nil (N_then (G_seq (G_region (wR 1 [(2, pB q 0), (3, .slice n l.length m)] G ?_))))
 obtain ⟨a, O, hm⟩ := gx_bind hm
 refine wC 89 #[.slice n l.length m] ((c_s_DrawIsCopying G l n m (J.mem0 t) O).mono ?_)
 rintro e_ S ⟨h, c, P, i, d, Q, j, f, R, rfl, K, L, N, H⟩
 have I := t.call H
 refine ⟨_, rfl, ?_⟩
 refine wS true 3 0 (.agg #[.slice h a.Memory.length c, .slice i a.Copy.length d, .slice j a.Dirty.length f]) 0 [.slice h a.Memory.length c, .slice i a.Copy.length d, .slice j a.Dirty.length f] I rfl ?_
 intro T u
 refine W_nil (N_then (G_ret ?_))
 obtain rfl := Option.some.inj hm
 exact N_ret [.agg #[.slice h a.Memory.length c, .slice i a.Copy.length d, .slice j a.Dirty.length f]] (RVs_cons (RV_cell (g := true) (k := 3) (b := q) (off := 0) (cs := [.slice h a.Memory.length c, .slice i a.Copy.length d, .slice j a.Dirty.length f]) (e := 28) (fr := (0, 0)) (v := .agg #[.slice h a.Memory.length c, .slice i a.Copy.length d, .slice j a.Dirty.length f]) (u.blk 0 (b := q) (o := .cells ⟨[.slice h a.Memory.length c, .slice i a.Copy.length d, .slice j a.Dirty.length f]⟩ 28 (0, 0)) (by kernel_rfl)) (by kernel_rfl) (by kernel_rfl) (by kernel_rfl)) RVs_nil) (⟨h, c, P, i, d, Q, j, f, R, rfl, K, L, N, u.pk [1, 2, 3]⟩)
end Go.Proofs.Ytjbblcdajdpfkaa
