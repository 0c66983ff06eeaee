/- The walks, printed by program: whenever the model gives r, the call returns r. Part 4. -/
import Derived.Test.YtjbblcdajdpfkaaM
import Derived.Test.YtjbblcdajdpfkaaGxZ
import Derived.Test.YtjbblcdajdpfkaaProg
import Derived.Test.YtjbblcdajdpfkaaC3
set_option linter.unusedVariables false
set_option maxRecDepth 100000
set_option maxHeartbeats 4000000
namespace Go.Proofs.Ytjbblcdajdpfkaa
open Go.Gx
theorem c_l_FnExactCopyRound (w : World) (d : Copying) (D : Option Addr) (A : Nat) (bh : rdS Gx.encI w d.Memory D A) (E : Option Addr) (B : Nat) (bi : rdS Gx.encI w d.Copy E B) (F : Option Addr) (C : Nat) (bj : rdS Gx.encB w d.Dirty F C) (l : Int) {r : Bool} (hm : M.l_FnExactCopyRound d l = some r) :
  Calls Try.prog 8 #[.agg #[.slice D d.Memory.length A, .slice E d.Copy.length B, .slice F d.Dirty.length C], iv l] w fun e w' => e = .returned (.bool r) ∧ Mem [] w w' [] := by
 unfold M.l_FnExactCopyRound at hm
 refine cE Try.func8 ?_
 have M0 := Mem.refl [] w
 refine G_seq (G_region (wN (.cells ⟨[.slice D d.Memory.length A, .slice E d.Copy.length B, .slice F d.Dirty.length C]⟩ 25 (0, 0)) M0 ?_))
 intro n bk bb
 refine wR 1 [(1, iv l), (2, pB n 0)] bk (W_nil (N_then (G_seq (G_region (wR 1 [(1, iv l), (2, pB n 0), (5, iv 1048576)] bk (W_nil (N_then (G_seq (G_region (wV (.agg #[.slice D d.Memory.length A, .slice E d.Copy.length B, .slice F d.Dirty.length C]) bk (eL true 3 0 (bb.blk 0 rfl)) (wR 1 [(1, iv l), (2, pB n 0), (5, iv 1048576), (19, .agg #[.slice D d.Memory.length A, .slice E d.Copy.length B, .slice F d.Dirty.length C]), (20, iv 1048576)] bk ?_)))))))))))
 obtain ⟨dt, fa, hm⟩ := gx_bind hm
 refine wC 13 #[.agg #[.slice D d.Memory.length A, .slice E d.Copy.length B, .slice F d.Dirty.length C], iv 1048576] ((c_l_szCopying bk d D A (bh.mem0 bb) E B (bi.mem0 bb) F C (bj.mem0 bb) 1048576 fa).mono ?_)
 rintro e_ bl ⟨rfl, dz⟩
 have aq := bb.call0 dz
 refine ⟨_, rfl, ?_⟩
 refine wR 1 [(1, iv l), (2, pB n 0), (5, iv dt)] bl (W_nil (N_then (G_seq (G_seq (G_region (wR 2 [(1, iv l), (2, pB n 0), (23, .bool (decide (dt < 0)))] bl (W_nil (N_then ?_))))))))
 rcases gx_bif hm with ⟨ce, hm⟩ | ⟨ce, hm⟩
 ·refine gT ce (G_seq (G_region (wR 1 [(4, .bool true)] bl (W_nil (N_then (G_ret (N_then_ret ?_)))))))
  obtain rfl := Option.some.inj hm
  exact N_ret [.bool true] (rC RVs_nil) (⟨rfl, aq.pk []⟩)
 refine gF ce (G_skip (N_then (G_seq (G_region (wV (.agg #[.slice D d.Memory.length A, .slice E d.Copy.length B, .slice F d.Dirty.length C]) bl (eL true 3 0 (aq.blk 0 rfl)) ?_)))))
 obtain ⟨am, fb, hm⟩ := gx_bind hm
 refine wC 15 #[.agg #[.slice D d.Memory.length A, .slice E d.Copy.length B, .slice F d.Dirty.length C]] ((c_l_toCopying bl d D A (bh.mem0 aq) E B (bi.mem0 aq) F C (bj.mem0 aq) fb).mono ?_)
 rintro e_ dx ⟨dc, b7, gd, dd, b8, ge, de, b9, gf, rfl, ey, ez, e0, d0⟩
 have br := aq.call d0
 refine ⟨_, rfl, ?_⟩
 refine wR 1 [(1, iv l), (2, pB n 0), (26, .agg #[.slice dc am.Memory.length b7, .slice dd am.Copy.length b8, .slice de am.Dirty.length b9]), (27, iv l)] dx ?_
 obtain ⟨b, fc, hm⟩ := gx_bind hm
 refine wC 33 #[.agg #[.slice dc am.Memory.length b7, .slice dd am.Copy.length b8, .slice de am.Dirty.length b9], iv l] ((c_s_CopyRound dx am dc b7 (ey.rd br 1 (by kernel_rfl)) dd b8 (ez.rd br 2 (by kernel_rfl)) de b9 (e0.rd br 3 (by kernel_rfl)) l fc).mono ?_)
 rintro e_ fz ⟨T, P, a0, U, Q, a3, V, S, a4, rfl, c0, c1, c2, d1⟩
 have ef := br.call d1
 refine ⟨_, rfl, ?_⟩
 refine wR 4 [(1, iv l), (2, pB n 0), (29, .agg #[.slice T b.1.Memory.length P, .slice U b.1.Copy.length Q, .slice V b.1.Dirty.length S]), (30, iv b.2.1), (31, .bool b.2.2)] fz (wN (.cells ⟨[.slice none 0 0, .slice none 0 0, .slice none 0 0]⟩ 28 (0, 0)) ef ?_)
 intro o gm eg
 refine wS true 3 0 (.agg #[.slice T b.1.Memory.length P, .slice U b.1.Copy.length Q, .slice V b.1.Dirty.length S]) 7 [.slice T b.1.Memory.length P, .slice U b.1.Copy.length Q, .slice V b.1.Dirty.length S] eg rfl ?_
 intro di bc
 refine wR 2 [(1, iv l), (2, pB n 0), (6, pB o 0), (7, iv b.2.1), (8, .bool b.2.2)] di (W_nil (N_then (G_seq (G_region (wV (.agg #[.slice D d.Memory.length A, .slice E d.Copy.length B, .slice F d.Dirty.length C]) di (eL true 3 0 (bc.blk 0 rfl)) ?_)))))
 obtain ⟨g, fd, hm⟩ := gx_bind hm
 refine wC 15 #[.agg #[.slice D d.Memory.length A, .slice E d.Copy.length B, .slice F d.Dirty.length C]] ((c_l_toCopying di d D A (bh.mem0 bc) E B (bi.mem0 bc) F C (bj.mem0 bc) fd).mono ?_)
 rintro e_ gn ⟨K, H, bx, L, I, bz, N, J, b0, rfl, c3, c4, c5, d2⟩
 have eh := bc.call d2
 refine ⟨_, rfl, ?_⟩
 refine wN (.cells ⟨[.slice none 0 0, .slice none 0 0, .slice none 0 0]⟩ 28 (0, 0)) eh ?_
 intro W go ei
 refine wS true 3 0 (.agg #[.slice K g.Memory.length H, .slice L g.Copy.length I, .slice N g.Dirty.length J]) 11 [.slice K g.Memory.length H, .slice L g.Copy.length I, .slice N g.Dirty.length J] ei rfl ?_
 intro dj bd
 refine W_nil (N_then (G_seq (G_region (wV (.agg #[.slice K g.Memory.length H, .slice L g.Copy.length I, .slice N g.Dirty.length J]) dj (eL true 3 0 (bd.blk 11 rfl)) (wR 1 [(1, iv l), (2, pB n 0), (6, pB o 0), (7, iv b.2.1), (8, .bool b.2.2), (9, pB W 0), (35, .agg #[.slice K g.Memory.length H, .slice L g.Copy.length I, .slice N g.Dirty.length J]), (36, iv l)] dj ?_)))))
 obtain ⟨c, fe, hm⟩ := gx_bind hm
 refine wC 34 #[.agg #[.slice K g.Memory.length H, .slice L g.Copy.length I, .slice N g.Dirty.length J], iv l] ((c_i_CopyRound dj g K H (c3.rd bd 8 (by kernel_rfl)) L I (c4.rd bd 9 (by kernel_rfl)) N J (c5.rd bd 10 (by kernel_rfl)) l fe).mono ?_)
 rintro e_ f0 ⟨x, q, a5, y, t, a6, z, u, a7, rfl, c6, c7, c8, d3⟩
 have ej := bd.call d3
 refine ⟨_, rfl, ?_⟩
 refine wR 4 [(1, iv l), (2, pB n 0), (6, pB o 0), (7, iv b.2.1), (8, .bool b.2.2), (9, pB W 0), (38, .agg #[.slice x c.1.Memory.length q, .slice y c.1.Copy.length t, .slice z c.1.Dirty.length u]), (39, iv c.2.1), (40, .bool c.2.2)] f0 (wN (.cells ⟨[.slice none 0 0, .slice none 0 0, .slice none 0 0]⟩ 28 (0, 0)) ej ?_)
 intro m gp ek
 refine wS true 3 0 (.agg #[.slice x c.1.Memory.length q, .slice y c.1.Copy.length t, .slice z c.1.Dirty.length u]) 15 [.slice x c.1.Memory.length q, .slice y c.1.Copy.length t, .slice z c.1.Dirty.length u] ek rfl ?_
 intro b1 ai
 refine wR 2 [(1, iv l), (2, pB n 0), (6, pB o 0), (7, iv b.2.1), (8, .bool b.2.2), (9, pB W 0), (10, pB m 0), (11, iv c.2.1), (12, .bool c.2.2)] b1 (W_nil (N_then (G_seq (G_seq ?_))))
 obtain ⟨ds, e1, ev⟩ := gx_bind hm
 refine G_meet (fun a w' => Mem [] w w' [[(n, .cells ⟨[.slice D d.Memory.length A, .slice E d.Copy.length B, .slice F d.Dirty.length C]⟩ 25 (0, 0))], a0, a3, a4, [(o, .cells ⟨[.slice T b.1.Memory.length P, .slice U b.1.Copy.length Q, .slice V b.1.Dirty.length S]⟩ 28 (0, 0))], bx, bz, b0, [(W, .cells ⟨[.slice K g.Memory.length H, .slice L g.Copy.length I, .slice N g.Dirty.length J]⟩ 28 (0, 0))], a5, a6, a7, [(m, .cells ⟨[.slice x c.1.Memory.length q, .slice y c.1.Copy.length t, .slice z c.1.Dirty.length u]⟩ 28 (0, 0))]] ∧ Sat Try.f8.ntmps [(1, iv l), (2, pB n 0), (6, pB o 0), (7, iv b.2.1), (8, .bool b.2.2), (9, pB W 0), (10, pB m 0), (11, iv c.2.1), (12, .bool c.2.2), (54, .bool ds)] a) ?_ ?_
 ·have hm := e1
  refine G_region (wV (.agg #[.slice x c.1.Memory.length q, .slice y c.1.Copy.length t, .slice z c.1.Dirty.length u]) b1 (eL true 3 0 (ai.blk 15 rfl)) (wV (.agg #[.slice T b.1.Memory.length P, .slice U b.1.Copy.length Q, .slice V b.1.Dirty.length S]) b1 (eL true 3 0 (ai.blk 7 rfl)) ?_))
  obtain ⟨fs, ff, hm⟩ := gx_bind hm
  refine wC 17 #[.agg #[.slice x c.1.Memory.length q, .slice y c.1.Copy.length t, .slice z c.1.Dirty.length u], .agg #[.slice T b.1.Memory.length P, .slice U b.1.Copy.length Q, .slice V b.1.Dirty.length S]] ((c_l_eqCopying b1 c.1 x q (c6.rd ai 12 (by kernel_rfl)) y t (c7.rd ai 13 (by kernel_rfl)) z u (c8.rd ai 14 (by kernel_rfl)) b.1 T P (c0.rd ai 4 (by kernel_rfl)) U Q (c1.rd ai 5 (by kernel_rfl)) V S (c2.rd ai 6 (by kernel_rfl)) ff).mono ?_)
  rintro e_ bm ⟨rfl, d4⟩
  have b3 := ai.call0 d4
  refine ⟨_, rfl, ?_⟩
  refine wR 2 [(1, iv l), (2, pB n 0), (6, pB o 0), (7, iv b.2.1), (8, .bool b.2.2), (9, pB W 0), (10, pB m 0), (11, iv c.2.1), (12, .bool c.2.2), (45, .bool (!fs))] bm ?_
  rcases gx_bif hm with ⟨cf, hm⟩ | ⟨cf, hm⟩
  ·refine wK 45 true cf (wR 9 [(1, iv l), (2, pB n 0), (6, pB o 0), (7, iv b.2.1), (8, .bool b.2.2), (9, pB W 0), (10, pB m 0), (11, iv c.2.1), (12, .bool c.2.2), (54, .bool true)] bm (W_nil ?_))
   obtain rfl := Option.some.inj hm
   exact N_meet fun a ha => ⟨b3.pk [0, 4, 5, 6, 7, 8, 9, 10, 11, 12, 13, 14, 15], ha.s⟩
  refine wK 45 false cf (wR 5 [(1, iv l), (2, pB n 0), (6, pB o 0), (7, iv b.2.1), (8, .bool b.2.2), (9, pB W 0), (10, pB m 0), (11, iv c.2.1), (12, .bool c.2.2), (50, .bool (c.2.1 != b.2.1))] bm ?_)
  rcases gx_bif hm with ⟨cg, hm⟩ | ⟨cg, hm⟩
  ·refine wK 50 true cg (wR 4 [(1, iv l), (2, pB n 0), (6, pB o 0), (7, iv b.2.1), (8, .bool b.2.2), (9, pB W 0), (10, pB m 0), (11, iv c.2.1), (12, .bool c.2.2), (54, .bool true)] bm (W_nil ?_))
   obtain rfl := Option.some.inj hm
   exact N_meet fun a ha => ⟨b3.pk [0, 4, 5, 6, 7, 8, 9, 10, 11, 12, 13, 14, 15], ha.s⟩
  refine wK 50 false cg (wR 4 [(1, iv l), (2, pB n 0), (6, pB o 0), (7, iv b.2.1), (8, .bool b.2.2), (9, pB W 0), (10, pB m 0), (11, iv c.2.1), (12, .bool c.2.2), (54, .bool (!(c.2.2 == b.2.2)))] bm (W_nil ?_))
  obtain rfl := Option.some.inj hm
  exact N_meet fun a ha => ⟨b3.pk [0, 4, 5, 6, 7, 8, 9, 10, 11, 12, 13, 14, 15], ha.s⟩
 intro f6 f1 ⟨dl, es⟩
 refine N_use es ?_
 have hm := ev
 refine N_then ?_
 rcases gx_bif hm with ⟨ch, hm⟩ | ⟨ch, hm⟩
 ·refine gT ch (G_seq (G_region (wR 1 [(4, .bool false)] f1 (W_nil (N_then (G_ret (N_then_ret ?_)))))))
  obtain rfl := Option.some.inj hm
  exact N_ret [.bool false] (rC RVs_nil) (⟨rfl, dl.pk []⟩)
 refine gF ch (G_skip (N_then (G_seq (G_seq ?_))))
 obtain ⟨O, fg, hm⟩ := gx_bind hm
 refine G_sub [(1, iv l), (2, pB n 0), (6, pB o 0), (7, iv b.2.1), (8, .bool b.2.2), (9, pB W 0), (10, pB m 0), (11, iv c.2.1), (12, .bool c.2.2), (54, .bool ds)] (by kernel_rfl) (G_dagL 3 [[], [], [1]] [[], [], []] [[], [], []] [[], [], []] [[], [], []] [[], [], []] (fun _ => []) (fun i => ([fun f v s => v = (.agg #[.slice K g.Memory.length H, .slice L g.Copy.length I, .slice N g.Dirty.length J] : Value) ∧ s = [], fun f v s => v = (.agg #[.slice D d.Memory.length A, .slice E d.Copy.length B, .slice F d.Dirty.length C] : Value) ∧ s = [], fun f v s => ∃ (aa : Option Addr) (X : Nat) (ad : Seg), ∃ (ab : Option Addr) (Y : Nat) (ae : Seg), ∃ (ac : Option Addr) (Z : Nat) (af : Seg), v = (.agg #[.slice aa O.Memory.length X, .slice ab O.Copy.length Y, .slice ac O.Dirty.length Z] : Value) ∧ s = (ad ++ (ae ++ af)) ∧ ownS Gx.encI O.Memory aa X ad ∧ ownS Gx.encI O.Copy ab Y ae ∧ ownS Gx.encB O.Dirty ac Z af] : List ((Nat → Value) → Value → Seg → Prop)).getD i (fun _ _ _ => False)) (fun j f v => ∃ s, (fun i => ([fun f v s => v = (.agg #[.slice K g.Memory.length H, .slice L g.Copy.length I, .slice N g.Dirty.length J] : Value) ∧ s = [], fun f v s => v = (.agg #[.slice D d.Memory.length A, .slice E d.Copy.length B, .slice F d.Dirty.length C] : Value) ∧ s = [], fun f v s => ∃ (aa : Option Addr) (X : Nat) (ad : Seg), ∃ (ab : Option Addr) (Y : Nat) (ae : Seg), ∃ (ac : Option Addr) (Z : Nat) (af : Seg), v = (.agg #[.slice aa O.Memory.length X, .slice ab O.Copy.length Y, .slice ac O.Dirty.length Z] : Value) ∧ s = (ad ++ (ae ++ af)) ∧ ownS Gx.encI O.Memory aa X ad ∧ ownS Gx.encI O.Copy ab Y ae ∧ ownS Gx.encB O.Dirty ac Z af] : List ((Nat → Value) → Value → Seg → Prop)).getD i (fun _ _ _ => False)) j f v s) [] [0, 2] [2] (fun _ _ _ s h => ⟨s, h⟩) (by kernel_rfl) (by kernel_rfl) (dl.preNil 3) (by kernel_rfl) (by kernel_rfl) (by kernel_rfl) (by kernel_rfl) (allOb_cons ?_ (allOb_cons ?_ (allOb_cons ?_ allOb_nil))) ?_)
 ·intro bu cd
  intro R f2 dm
  exact wV (.agg #[.slice K g.Memory.length H, .slice L g.Copy.length I, .slice N g.Dirty.length J]) f2 (eL true 3 0 (dm.blk 8 rfl)) (W_nil (oE (.agg #[.slice K g.Memory.length H, .slice L g.Copy.length I, .slice N g.Dirty.length J]) [] ⟨by kernel_rfl, rfl⟩ dm))
 ·intro bu cd
  intro R f3 dn
  exact wV (.agg #[.slice D d.Memory.length A, .slice E d.Copy.length B, .slice F d.Dirty.length C]) f3 (eL true 3 0 (dn.blk 0 rfl)) (W_nil (oE (.agg #[.slice D d.Memory.length A, .slice E d.Copy.length B, .slice F d.Dirty.length C]) [] ⟨by kernel_rfl, rfl⟩ dn))
 ·intro bu cd
  intro v1_ hb1_
  obtain ⟨rfl, _⟩ := hb1_
  intro R f4 bs
  refine wC 15 #[.agg #[.slice D d.Memory.length A, .slice E d.Copy.length B, .slice F d.Dirty.length C]] ((c_l_toCopying f4 d D A (bh.mem0 bs) E B (bi.mem0 bs) F C (bj.mem0 bs) fg).mono ?_)
  rintro e_ gq ⟨aa, X, ad, ab, Y, ae, ac, Z, af, rfl, c9, da, db, d5⟩
  refine ⟨_, rfl, ?_⟩
  exact W_nil (oE (.agg #[.slice aa O.Memory.length X, .slice ab O.Copy.length Y, .slice ac O.Dirty.length Z]) (ad ++ (ae ++ af)) ⟨aa, X, ad, ab, Y, ae, ac, Z, af, rfl, rfl, c9, da, db⟩ (Mem.callMid bs (d5.permF (by simp))))
 intro bu cd
 intro v0_ hb0_
 obtain ⟨rfl, _⟩ := hb0_
 intro v2_ hb2_
 obtain ⟨aa, X, ad, ab, Y, ae, ac, Z, af, rfl, hs2_, c9, da, db⟩ := hb2_
 intro dk el
 have ag : Mem [] w dk [[(n, .cells ⟨[.slice D d.Memory.length A, .slice E d.Copy.length B, .slice F d.Dirty.length C]⟩ 25 (0, 0))], a0, a3, a4, [(o, .cells ⟨[.slice T b.1.Memory.length P, .slice U b.1.Copy.length Q, .slice V b.1.Dirty.length S]⟩ 28 (0, 0))], bx, bz, b0, [(W, .cells ⟨[.slice K g.Memory.length H, .slice L g.Copy.length I, .slice N g.Dirty.length J]⟩ 28 (0, 0))], a5, a6, a7, [(m, .cells ⟨[.slice x c.1.Memory.length q, .slice y c.1.Copy.length t, .slice z c.1.Dirty.length u]⟩ 28 (0, 0))], (bu 2)] := el
 rw [hs2_] at ag
 replace ag : Mem [] w dk [[(n, .cells ⟨[.slice D d.Memory.length A, .slice E d.Copy.length B, .slice F d.Dirty.length C]⟩ 25 (0, 0))], a0, a3, a4, [(o, .cells ⟨[.slice T b.1.Memory.length P, .slice U b.1.Copy.length Q, .slice V b.1.Dirty.length S]⟩ 28 (0, 0))], bx, bz, b0, [(W, .cells ⟨[.slice K g.Memory.length H, .slice L g.Copy.length I, .slice N g.Dirty.length J]⟩ 28 (0, 0))], a5, a6, a7, [(m, .cells ⟨[.slice x c.1.Memory.length q, .slice y c.1.Copy.length t, .slice z c.1.Dirty.length u]⟩ 28 (0, 0))], ad, ae, af] := ag.permF (by simp)
 obtain ⟨ft, fh, hm⟩ := gx_bind hm
 refine wC 17 #[.agg #[.slice K g.Memory.length H, .slice L g.Copy.length I, .slice N g.Dirty.length J], .agg #[.slice aa O.Memory.length X, .slice ab O.Copy.length Y, .slice ac O.Dirty.length Z]] ((c_l_eqCopying dk g K H (c3.rd ag 5 (by kernel_rfl)) L I (c4.rd ag 6 (by kernel_rfl)) N J (c5.rd ag 7 (by kernel_rfl)) O aa X (c9.rd ag 13 (by kernel_rfl)) ab Y (da.rd ag 14 (by kernel_rfl)) ac Z (db.rd ag 15 (by kernel_rfl)) fh).mono ?_)
 rintro e_ a8 ⟨rfl, d6⟩
 have be := ag.call0 d6
 refine ⟨_, rfl, ?_⟩
 refine wR 1 [(1, iv l), (2, pB n 0), (6, pB o 0), (7, iv b.2.1), (8, .bool b.2.2), (9, pB W 0), (10, pB m 0), (11, iv c.2.1), (12, .bool c.2.2), (59, .bool (!ft))] a8 (W_nil (N_then ?_))
 rcases gx_bif hm with ⟨ci, hm⟩ | ⟨ci, hm⟩
 ·refine gT ci (G_seq (G_region (wR 1 [(4, .bool false)] a8 (W_nil (N_then (G_ret (N_then_ret ?_)))))))
  obtain rfl := Option.some.inj hm
  exact N_ret [.bool false] (rC RVs_nil) (⟨rfl, be.pk []⟩)
 refine gF ci (G_skip (N_then (G_seq (G_region (wR 1 [(1, iv l), (2, pB n 0), (6, pB o 0), (7, iv b.2.1), (8, .bool b.2.2), (9, pB W 0), (10, pB m 0), (11, iv c.2.1), (12, .bool c.2.2), (13, iv 1)] a8 (W_nil (N_then (G_seq (G_region (wV (.agg #[.slice K g.Memory.length H, .slice L g.Copy.length I, .slice N g.Dirty.length J]) a8 (eL true 3 0 (be.blk 8 rfl)) (wR 1 [(1, iv l), (2, pB n 0), (6, pB o 0), (7, iv b.2.1), (8, .bool b.2.2), (10, pB m 0), (11, iv c.2.1), (12, .bool c.2.2), (13, iv 1), (60, .agg #[.slice K g.Memory.length H, .slice L g.Copy.length I, .slice N g.Dirty.length J]), (61, iv 1)] a8 ?_)))))))))))
 obtain ⟨ak, fi, hm⟩ := gx_bind hm
 refine wC 23 #[.agg #[.slice K g.Memory.length H, .slice L g.Copy.length I, .slice N g.Dirty.length J], iv 1] ((c_l_markCopying a8 g K H bx c3 L I bz c4 N J b0 c5 1 (be.hasPick [5, 6, 7]) (be.nodupPick [5, 6, 7] (by kernel_rfl)) fi).mono ?_)
 rintro e_ ao ⟨fw, fx, fy, rfl, ga, cu, gb, cv, gc, cw, d7⟩
 have em := be.callF' [5, 6, 7] [0, 1, 2, 3, 4, 8, 9, 10, 11, 12, 13, 14, 15] (by kernel_rfl) d7
 refine ⟨_, rfl, ?_⟩
 refine wX 60 (.agg #[.slice K g.Memory.length H, .slice L g.Copy.length I, .slice N g.Dirty.length J]) (.agg #[.slice K ak.2.1.length H, .slice L ak.2.2.1.length I, .slice N ak.2.2.2.length J]) (by first | rw [cu, cv, cw] | rw [cu] | rw [cv] | rw [cw]) ?_
 have ah : Mem [] w ao [[(n, .cells ⟨[.slice D d.Memory.length A, .slice E d.Copy.length B, .slice F d.Dirty.length C]⟩ 25 (0, 0))], a0, a3, a4, [(o, .cells ⟨[.slice T b.1.Memory.length P, .slice U b.1.Copy.length Q, .slice V b.1.Dirty.length S]⟩ 28 (0, 0))], [(W, .cells ⟨[.slice K ak.2.1.length H, .slice L ak.2.2.1.length I, .slice N ak.2.2.2.length J]⟩ 28 (0, 0))], a5, a6, a7, [(m, .cells ⟨[.slice x c.1.Memory.length q, .slice y c.1.Copy.length t, .slice z c.1.Dirty.length u]⟩ 28 (0, 0))], ad, ae, af, fw, fx, fy] := by rw [cu, cv, cw]; exact em
 refine wR 1 [(1, iv l), (2, pB n 0), (6, pB o 0), (7, iv b.2.1), (8, .bool b.2.2), (10, pB m 0), (11, iv c.2.1), (12, .bool c.2.2), (13, iv ak.1)] ao (W_nil (N_then (G_seq (G_seq ?_))))
 obtain ⟨fq, e2, ew⟩ := gx_bind hm
 refine G_meet (fun a w' => Mem [] w w' [[(n, .cells ⟨[.slice D d.Memory.length A, .slice E d.Copy.length B, .slice F d.Dirty.length C]⟩ 25 (0, 0))], a0, a3, a4, [(o, .cells ⟨[.slice T b.1.Memory.length P, .slice U b.1.Copy.length Q, .slice V b.1.Dirty.length S]⟩ 28 (0, 0))], a5, a6, a7, [(m, .cells ⟨[.slice x c.1.Memory.length q, .slice y c.1.Copy.length t, .slice z c.1.Dirty.length u]⟩ 28 (0, 0))]] ∧ Sat Try.f8.ntmps [(1, iv l), (2, pB n 0), (6, pB o 0), (7, iv b.2.1), (8, .bool b.2.2), (10, pB m 0), (80, .bool fq)] a) ?_ ?_
 ·have hm := e2
  refine G_region (wR 3 [(1, iv l), (2, pB n 0), (6, pB o 0), (7, iv b.2.1), (8, .bool b.2.2), (10, pB m 0), (11, iv c.2.1), (12, .bool c.2.2), (65, .bool (decide (ak.1 < 0)))] ao ?_)
  rcases gx_bif hm with ⟨cj, hm⟩ | ⟨cj, hm⟩
  ·refine wK 65 true cj (wR 15 [(1, iv l), (2, pB n 0), (6, pB o 0), (7, iv b.2.1), (8, .bool b.2.2), (10, pB m 0), (80, .bool true)] ao (W_nil ?_))
   obtain rfl := Option.some.inj hm
   exact N_meet fun a ha => ⟨ah.pk [0, 1, 2, 3, 4, 6, 7, 8, 9], ha.s⟩
  refine wK 65 false cj (wV (.agg #[.slice x c.1.Memory.length q, .slice y c.1.Copy.length t, .slice z c.1.Dirty.length u]) ao (eL true 3 0 (ah.blk 9 rfl)) (wV (.agg #[.slice T b.1.Memory.length P, .slice U b.1.Copy.length Q, .slice V b.1.Dirty.length S]) ao (eL true 3 0 (ah.blk 4 rfl)) ?_))
  obtain ⟨fu, fj, hm⟩ := gx_bind hm
  refine wC 17 #[.agg #[.slice x c.1.Memory.length q, .slice y c.1.Copy.length t, .slice z c.1.Dirty.length u], .agg #[.slice T b.1.Memory.length P, .slice U b.1.Copy.length Q, .slice V b.1.Dirty.length S]] ((c_l_eqCopying ao c.1 x q (c6.rd ah 6 (by kernel_rfl)) y t (c7.rd ah 7 (by kernel_rfl)) z u (c8.rd ah 8 (by kernel_rfl)) b.1 T P (c0.rd ah 1 (by kernel_rfl)) U Q (c1.rd ah 2 (by kernel_rfl)) V S (c2.rd ah 3 (by kernel_rfl)) fj).mono ?_)
  rintro e_ bn ⟨rfl, d8⟩
  have b4 := ah.call0 d8
  refine ⟨_, rfl, ?_⟩
  refine wR 3 [(1, iv l), (2, pB n 0), (6, pB o 0), (7, iv b.2.1), (8, .bool b.2.2), (10, pB m 0), (11, iv c.2.1), (12, .bool c.2.2), (71, .bool (!fu))] bn ?_
  rcases gx_bif hm with ⟨ck, hm⟩ | ⟨ck, hm⟩
  ·refine wK 71 true ck (wR 9 [(1, iv l), (2, pB n 0), (6, pB o 0), (7, iv b.2.1), (8, .bool b.2.2), (10, pB m 0), (80, .bool true)] bn (W_nil ?_))
   obtain rfl := Option.some.inj hm
   exact N_meet fun a ha => ⟨b4.pk [0, 1, 2, 3, 4, 6, 7, 8, 9], ha.s⟩
  refine wK 71 false ck (wR 5 [(1, iv l), (2, pB n 0), (6, pB o 0), (7, iv b.2.1), (8, .bool b.2.2), (10, pB m 0), (12, .bool c.2.2), (76, .bool (c.2.1 != b.2.1))] bn ?_)
  rcases gx_bif hm with ⟨cl, hm⟩ | ⟨cl, hm⟩
  ·refine wK 76 true cl (wR 4 [(1, iv l), (2, pB n 0), (6, pB o 0), (7, iv b.2.1), (8, .bool b.2.2), (10, pB m 0), (80, .bool true)] bn (W_nil ?_))
   obtain rfl := Option.some.inj hm
   exact N_meet fun a ha => ⟨b4.pk [0, 1, 2, 3, 4, 6, 7, 8, 9], ha.s⟩
  refine wK 76 false cl (wR 4 [(1, iv l), (2, pB n 0), (6, pB o 0), (7, iv b.2.1), (8, .bool b.2.2), (10, pB m 0), (80, .bool (!(c.2.2 == b.2.2)))] bn (W_nil ?_))
  obtain rfl := Option.some.inj hm
  exact N_meet fun a ha => ⟨b4.pk [0, 1, 2, 3, 4, 6, 7, 8, 9], ha.s⟩
 intro f7 bo ⟨bf, et⟩
 refine N_use et ?_
 have hm := ew
 refine N_then ?_
 rcases gx_bif hm with ⟨cm, hm⟩ | ⟨cm, hm⟩
 ·refine gT cm (G_seq (G_region (wR 1 [(4, .bool false)] bo (W_nil (N_then (G_ret (N_then_ret ?_)))))))
  obtain rfl := Option.some.inj hm
  exact N_ret [.bool false] (rC RVs_nil) (⟨rfl, bf.pk []⟩)
 refine gF cm (G_skip (N_then (G_seq (G_region (wR 1 [(1, iv l), (2, pB n 0), (6, pB o 0), (7, iv b.2.1), (8, .bool b.2.2), (10, pB m 0), (14, iv 1)] bo (W_nil (N_then (G_seq (G_region (wV (.agg #[.slice x c.1.Memory.length q, .slice y c.1.Copy.length t, .slice z c.1.Dirty.length u]) bo (eL true 3 0 (bf.blk 8 rfl)) (wR 1 [(1, iv l), (2, pB n 0), (6, pB o 0), (7, iv b.2.1), (8, .bool b.2.2), (10, pB m 0), (14, iv 1), (81, .agg #[.slice x c.1.Memory.length q, .slice y c.1.Copy.length t, .slice z c.1.Dirty.length u]), (82, iv 1)] bo ?_)))))))))))
 obtain ⟨k, fk, hm⟩ := gx_bind hm
 refine wC 23 #[.agg #[.slice x c.1.Memory.length q, .slice y c.1.Copy.length t, .slice z c.1.Dirty.length u], iv 1] ((c_l_markCopying bo c.1 x q a5 c6 y t a6 c7 z u a7 c8 1 (bf.hasPick [5, 6, 7]) (bf.nodupPick [5, 6, 7] (by kernel_rfl)) fk).mono ?_)
 rintro e_ a9 ⟨du, dv, dw, rfl, dp, cx, dq, cy, dr, cz, d9⟩
 have en := bf.callF' [5, 6, 7] [0, 1, 2, 3, 4, 8] (by kernel_rfl) d9
 refine ⟨_, rfl, ?_⟩
 refine wX 81 (.agg #[.slice x c.1.Memory.length q, .slice y c.1.Copy.length t, .slice z c.1.Dirty.length u]) (.agg #[.slice x k.2.1.length q, .slice y k.2.2.1.length t, .slice z k.2.2.2.length u]) (by first | rw [cx, cy, cz] | rw [cx] | rw [cy] | rw [cz]) ?_
 have bg : Mem [] w a9 [[(n, .cells ⟨[.slice D d.Memory.length A, .slice E d.Copy.length B, .slice F d.Dirty.length C]⟩ 25 (0, 0))], a0, a3, a4, [(o, .cells ⟨[.slice T b.1.Memory.length P, .slice U b.1.Copy.length Q, .slice V b.1.Dirty.length S]⟩ 28 (0, 0))], [(m, .cells ⟨[.slice x k.2.1.length q, .slice y k.2.2.1.length t, .slice z k.2.2.2.length u]⟩ 28 (0, 0))], du, dv, dw] := by rw [cx, cy, cz]; exact en
 refine wR 1 [(1, iv l), (2, pB n 0), (6, pB o 0), (7, iv b.2.1), (8, .bool b.2.2), (10, pB m 0), (14, iv k.1)] a9 (W_nil (N_then (G_seq (G_region (wR 1 [(1, iv l), (2, pB n 0), (6, pB o 0), (7, iv b.2.1), (8, .bool b.2.2), (10, pB m 0), (14, iv k.1), (15, iv 1)] a9 (W_nil (N_then (G_seq (G_region (wV (.agg #[.slice x k.2.1.length q, .slice y k.2.2.1.length t, .slice z k.2.2.2.length u]) a9 (eL true 3 0 (bg.blk 5 rfl)) (wR 1 [(1, iv l), (2, pB n 0), (6, pB o 0), (7, iv b.2.1), (8, .bool b.2.2), (10, pB m 0), (14, iv k.1), (15, iv 1), (84, .agg #[.slice x k.2.1.length q, .slice y k.2.2.1.length t, .slice z k.2.2.2.length u]), (85, iv 1)] a9 ?_)))))))))))
 obtain ⟨bv, fl, hm⟩ := gx_bind hm
 refine wC 24 #[.agg #[.slice x k.2.1.length q, .slice y k.2.2.1.length t, .slice z k.2.2.2.length u], iv 1] ((c_l_heldCopying a9 (⟨k.2.1, k.2.2.1, k.2.2.2⟩ : Copying) x q (dp.rd bg 6 (by kernel_rfl)) y t (dq.rd bg 7 (by kernel_rfl)) z u (dr.rd bg 8 (by kernel_rfl)) 1 fl).mono ?_)
 rintro e_ ap ⟨rfl, ea⟩
 have al := bg.call0 ea
 refine ⟨_, rfl, ?_⟩
 refine wR 1 [(1, iv l), (2, pB n 0), (6, pB o 0), (7, iv b.2.1), (8, .bool b.2.2), (10, pB m 0), (14, iv k.1), (15, iv bv)] ap (W_nil (N_then (G_seq (G_seq (G_region (wR 2 [(1, iv l), (2, pB n 0), (6, pB o 0), (7, iv b.2.1), (8, .bool b.2.2), (10, pB m 0), (14, iv k.1), (15, iv bv), (88, .bool (decide (bv < 0)))] ap (W_nil (N_then ?_))))))))
 rcases gx_bif hm with ⟨cn, hm⟩ | ⟨cn, hm⟩
 ·refine gT cn (G_seq (G_region (wR 1 [(4, .bool false)] ap (W_nil (N_then (G_ret (N_then_ret ?_)))))))
  obtain rfl := Option.some.inj hm
  exact N_ret [.bool false] (rC RVs_nil) (⟨rfl, al.pk []⟩)
 refine gF cn (G_skip (N_then (G_seq (G_seq (G_region (wR 3 [(1, iv l), (2, pB n 0), (6, pB o 0), (7, iv b.2.1), (8, .bool b.2.2), (10, pB m 0), (14, iv k.1), (91, .bool (bv != k.1))] ap (W_nil (N_then ?_))))))))
 rcases gx_bif hm with ⟨co, hm⟩ | ⟨co, hm⟩
 ·refine gT co (G_seq (G_region (wR 1 [(4, .bool false)] ap (W_nil (N_then (G_ret (N_then_ret ?_)))))))
  obtain rfl := Option.some.inj hm
  exact N_ret [.bool false] (rC RVs_nil) (⟨rfl, al.pk []⟩)
 refine gF co (G_skip (N_then (G_seq (G_region (wV (.agg #[.slice D d.Memory.length A, .slice E d.Copy.length B, .slice F d.Dirty.length C]) ap (eL true 3 0 (al.blk 0 rfl)) ?_)))))
 obtain ⟨an, fm, hm⟩ := gx_bind hm
 refine wC 15 #[.agg #[.slice D d.Memory.length A, .slice E d.Copy.length B, .slice F d.Dirty.length C]] ((c_l_toCopying ap d D A (bh.mem0 al) E B (bi.mem0 al) F C (bj.mem0 al) fm).mono ?_)
 rintro e_ dy ⟨df, ca, gg, dg, cb, gh, dh, cc, gi, rfl, e3, e4, e5, eb⟩
 have bt := al.call eb
 refine ⟨_, rfl, ?_⟩
 refine wR 1 [(6, pB o 0), (7, iv b.2.1), (8, .bool b.2.2), (10, pB m 0), (14, iv k.1), (94, .agg #[.slice df an.Memory.length ca, .slice dg an.Copy.length cb, .slice dh an.Dirty.length cc]), (95, iv l)] dy ?_
 obtain ⟨G, fn, hm⟩ := gx_bind hm
 refine wC 34 #[.agg #[.slice df an.Memory.length ca, .slice dg an.Copy.length cb, .slice dh an.Dirty.length cc], iv l] ((c_i_CopyRound dy an df ca (e3.rd bt 9 (by kernel_rfl)) dg cb (e4.rd bt 10 (by kernel_rfl)) dh cc (e5.rd bt 11 (by kernel_rfl)) l fn).mono ?_)
 rintro e_ f5 ⟨ax, au, gj, ay, av, gk, az, aw, gl, rfl, e6, e7, e8, ec⟩
 have eo := bt.call ec
 refine ⟨_, rfl, ?_⟩
 refine wR 4 [(6, pB o 0), (7, iv b.2.1), (8, .bool b.2.2), (10, pB m 0), (14, iv k.1), (97, .agg #[.slice ax G.1.Memory.length au, .slice ay G.1.Copy.length av, .slice az G.1.Dirty.length aw]), (98, iv G.2.1), (99, .bool G.2.2)] f5 (wN (.cells ⟨[.slice none 0 0, .slice none 0 0, .slice none 0 0]⟩ 28 (0, 0)) eo ?_)
 intro er gr ep
 refine wS true 3 0 (.agg #[.slice ax G.1.Memory.length au, .slice ay G.1.Copy.length av, .slice az G.1.Dirty.length aw]) 15 [.slice ax G.1.Memory.length au, .slice ay G.1.Copy.length av, .slice az G.1.Dirty.length aw] ep rfl ?_
 intro b2 aj
 refine wR 2 [(6, pB o 0), (7, iv b.2.1), (8, .bool b.2.2), (10, pB m 0), (14, iv k.1), (16, pB er 0), (17, iv G.2.1), (18, .bool G.2.2)] b2 (W_nil (N_then (G_seq (G_seq ?_))))
 obtain ⟨fr, e9, ex⟩ := gx_bind hm
 refine G_meet (fun a w' => Mem [] w w' [[(m, .cells ⟨[.slice x k.2.1.length q, .slice y k.2.2.1.length t, .slice z k.2.2.2.length u]⟩ 28 (0, 0))], du, dv, dw] ∧ Sat Try.f8.ntmps [(10, pB m 0), (14, iv k.1), (113, .bool fr)] a) ?_ ?_
 ·have hm := e9
  refine G_region (wV (.agg #[.slice ax G.1.Memory.length au, .slice ay G.1.Copy.length av, .slice az G.1.Dirty.length aw]) b2 (eL true 3 0 (aj.blk 15 rfl)) (wV (.agg #[.slice T b.1.Memory.length P, .slice U b.1.Copy.length Q, .slice V b.1.Dirty.length S]) b2 (eL true 3 0 (aj.blk 4 rfl)) ?_))
  obtain ⟨fv, fo, hm⟩ := gx_bind hm
  refine wC 17 #[.agg #[.slice ax G.1.Memory.length au, .slice ay G.1.Copy.length av, .slice az G.1.Dirty.length aw], .agg #[.slice T b.1.Memory.length P, .slice U b.1.Copy.length Q, .slice V b.1.Dirty.length S]] ((c_l_eqCopying b2 G.1 ax au (e6.rd aj 12 (by kernel_rfl)) ay av (e7.rd aj 13 (by kernel_rfl)) az aw (e8.rd aj 14 (by kernel_rfl)) b.1 T P (c0.rd aj 1 (by kernel_rfl)) U Q (c1.rd aj 2 (by kernel_rfl)) V S (c2.rd aj 3 (by kernel_rfl)) fo).mono ?_)
  rintro e_ bp ⟨rfl, ed⟩
  have b5 := aj.call0 ed
  refine ⟨_, rfl, ?_⟩
  refine wR 2 [(7, iv b.2.1), (8, .bool b.2.2), (10, pB m 0), (14, iv k.1), (17, iv G.2.1), (18, .bool G.2.2), (104, .bool (!fv))] bp ?_
  rcases gx_bif hm with ⟨cp, hm⟩ | ⟨cp, hm⟩
  ·refine wK 104 true cp (wR 9 [(10, pB m 0), (14, iv k.1), (113, .bool true)] bp (W_nil ?_))
   obtain rfl := Option.some.inj hm
   exact N_meet fun a ha => ⟨b5.pk [5, 6, 7, 8], ha.s⟩
  refine wK 104 false cp (wR 5 [(8, .bool b.2.2), (10, pB m 0), (14, iv k.1), (18, .bool G.2.2), (109, .bool (G.2.1 != b.2.1))] bp ?_)
  rcases gx_bif hm with ⟨cq, hm⟩ | ⟨cq, hm⟩
  ·refine wK 109 true cq (wR 4 [(10, pB m 0), (14, iv k.1), (113, .bool true)] bp (W_nil ?_))
   obtain rfl := Option.some.inj hm
   exact N_meet fun a ha => ⟨b5.pk [5, 6, 7, 8], ha.s⟩
  refine wK 109 false cq (wR 4 [(10, pB m 0), (14, iv k.1), (113, .bool (!(G.2.2 == b.2.2)))] bp (W_nil ?_))
  obtain rfl := Option.some.inj hm
  exact N_meet fun a ha => ⟨b5.pk [5, 6, 7, 8], ha.s⟩
 intro f9 bq ⟨ar, eu⟩
 refine N_use eu ?_
 have hm := ex
 refine N_then ?_
 rcases gx_bif hm with ⟨cr, hm⟩ | ⟨cr, hm⟩
 ·refine gT cr (G_seq (G_region (wR 1 [(4, .bool false)] bq (W_nil (N_then (G_ret (N_then_ret ?_)))))))
  obtain rfl := Option.some.inj hm
  exact N_ret [.bool false] (rC RVs_nil) (⟨rfl, ar.pk []⟩)
 refine gF cr (G_skip (N_then (G_seq (G_region (wR 1 [(10, pB m 0), (14, iv k.1), (15, iv 1)] bq (W_nil (N_then (G_seq (G_region (wV (.agg #[.slice x k.2.1.length q, .slice y k.2.2.1.length t, .slice z k.2.2.2.length u]) bq (eL true 3 0 (ar.blk 0 rfl)) (wR 1 [(14, iv k.1), (15, iv 1), (114, .agg #[.slice x k.2.1.length q, .slice y k.2.2.1.length t, .slice z k.2.2.2.length u]), (115, iv 1)] bq ?_)))))))))))
 obtain ⟨bw, fp, hm⟩ := gx_bind hm
 refine wC 24 #[.agg #[.slice x k.2.1.length q, .slice y k.2.2.1.length t, .slice z k.2.2.2.length u], iv 1] ((c_l_heldCopying bq (⟨k.2.1, k.2.2.1, k.2.2.2⟩ : Copying) x q (dp.rd ar 1 (by kernel_rfl)) y t (dq.rd ar 2 (by kernel_rfl)) z u (dr.rd ar 3 (by kernel_rfl)) 1 fp).mono ?_)
 rintro e_ ba ⟨rfl, ee⟩
 have b6 := ar.call0 ee
 refine ⟨_, rfl, ?_⟩
 refine wR 1 [(14, iv k.1), (15, iv bw)] ba (W_nil (N_then (G_seq (G_seq (G_region (wR 2 [(14, iv k.1), (15, iv bw), (118, .bool (decide (bw < 0)))] ba (W_nil (N_then ?_))))))))
 rcases gx_bif hm with ⟨cs, hm⟩ | ⟨cs, hm⟩
 ·refine gT cs (G_seq (G_region (wR 1 [(4, .bool false)] ba (W_nil (N_then (G_ret (N_then_ret ?_)))))))
  obtain rfl := Option.some.inj hm
  exact N_ret [.bool false] (rC RVs_nil) (⟨rfl, b6.pk []⟩)
 refine gF cs (G_skip (N_then (G_seq (G_seq (G_region (wR 3 [(121, .bool (bw != k.1))] ba (W_nil (N_then ?_))))))))
 rcases gx_bif hm with ⟨ct, hm⟩ | ⟨ct, hm⟩
 ·refine gT ct (G_seq (G_region (wR 1 [(4, .bool false)] ba (W_nil (N_then (G_ret (N_then_ret ?_)))))))
  obtain rfl := Option.some.inj hm
  exact N_ret [.bool false] (rC RVs_nil) (⟨rfl, b6.pk []⟩)
 refine gF ct (G_skip (N_then (G_seq (G_region (wR 1 [(4, .bool true)] ba (W_nil (N_then (G_ret ?_))))))))
 obtain rfl := Option.some.inj hm
 exact N_ret [.bool true] (rC RVs_nil) (⟨rfl, b6.pk []⟩)
theorem c_l_szStoreS (w : World) (a : List Store) (f : Option Addr) (c : Nat) (g : rdS encStore w a f c) (b : Int) {r : Int} (hm : M.l_szStoreS a b = some r) :
  Calls Try.prog 76 #[.slice f a.length c, iv b] w fun e w' => e = .returned (iv r) ∧ Mem [] w w' [] := by
 unfold M.l_szStoreS at hm
 refine cE Try.func76 ?_
 have M0 := Mem.refl [] w
 refine G_seq (G_region (wR 1 [(0, .slice f a.length c), (1, iv b)] w (W_nil (N_then (G_seq (G_region (wR 5 [(1, iv (w64 (b - (a.length : Int))))] w (W_nil (N_then (G_seq (G_seq (G_region (wR 2 [(1, iv (w64 (b - (a.length : Int)))), (10, .bool (decide ((w64 (b - (a.length : Int))) < 0)))] w (W_nil (N_then ?_)))))))))))))))
 rcases gx_bif hm with ⟨d, hm⟩ | ⟨d, hm⟩
 ·refine gT d (G_seq (G_region (wR 1 [(4, iv (-1))] w (W_nil (N_then (G_ret (N_then_ret ?_)))))))
  obtain rfl := Option.some.inj hm
  exact N_ret [iv (-1)] (rC RVs_nil) (⟨rfl, M0.pk []⟩)
 refine gF d (G_skip (N_then (G_seq (G_region (wR 2 [(4, iv (w64 (b - (a.length : Int))))] w (W_nil (N_then (G_ret ?_))))))))
 obtain rfl := Option.some.inj hm
 exact N_ret [iv (w64 (b - (a.length : Int)))] (rC RVs_nil) (⟨rfl, M0.pk []⟩)
theorem c_l_szStoreSS (w : World) (b : List (List Store)) (d : Option Addr) (f : Nat) (D : rdD (deepL encStore) w b d f) (h : Int) {r : Int} (hm : M.l_szStoreSS b h = some r) :
  Calls Try.prog 35 #[.slice d b.length f, iv h] w fun e w' => e = .returned (iv r) ∧ Mem [] w w' [] := by
 unfold M.l_szStoreSS at hm
 refine cE Try.func35 ?_
 have M0 := Mem.refl [] w
 refine G_seq (G_region (wR 1 [(0, .slice d b.length f), (1, iv h)] w (W_nil (N_then (G_seq (G_region (wR 5 [(0, .slice d b.length f), (1, iv (w64 (h - (b.length : Int))))] w (W_nil (N_then (G_seq (G_seq (G_region (wR 2 [(0, .slice d b.length f), (1, iv (w64 (h - (b.length : Int)))), (11, .bool (decide ((w64 (h - (b.length : Int))) < 0)))] w (W_nil (N_then ?_)))))))))))))))
 rcases gx_bif hm with ⟨o, hm⟩ | ⟨o, hm⟩
 ·refine gT o (G_seq (G_region (wR 1 [(4, iv (-1))] w (W_nil (N_then (G_ret (N_then_ret ?_)))))))
  obtain rfl := Option.some.inj hm
  exact N_ret [iv (-1)] (rC RVs_nil) (⟨rfl, M0.pk []⟩)
 refine gF o (G_skip (N_then (G_seq (G_seq (G_region (wR 1 [(0, .slice d b.length f), (1, iv (w64 (h - (b.length : Int)))), (5, iv 0)] w (W_nil (N_then ?_))))))))
 obtain ⟨K, I, x⟩ := gx_bind hm
 refine G_meet (fun a w' => ∃ (k : Int), K = .inl k ∧ Mem [] w w' [] ∧ Sat Try.f35.ntmps [(1, iv k)] a) ?_ ?_
 ·refine G_block (G_while (σ := Int × Int) (ρ := (Int) ⊕ (Int)) (fun c a w' => Mem [] w w' [] ∧ Sat Try.f35.ntmps [(0, .slice d b.length f), (1, iv c.1), (5, iv c.2)] a) I (fun a ha => ⟨M0.pk [], ha.s⟩) ?_)
  clear hm
  intro c P hm y N i ⟨j, E⟩
  refine G_use E (G_seq (G_seq (G_region (wR 4 [(0, .slice d b.length f), (1, iv c.1), (5, iv c.2), (15, .bool (decide (c.2 < (b.length : Int))))] i (W_nil (N_then ?_))))))
  rcases gx_bif hm with ⟨q, hm⟩ | ⟨q, hm⟩
  ·refine gT q (G_skip (N_then (G_seq (G_block (G_seq (G_region (wR 2 [(0, .slice d b.length f), (1, iv c.1), (5, iv c.2), (18, .slice d b.length f), (19, iv c.2)] i ?_)))))))
   obtain ⟨l, J, hm⟩ := gx_bind hm
   obtain ⟨Q, A, z, G⟩ := id D
   obtain ⟨g, u⟩ := gxIdx_fst A J
   refine wV (elemP d (c.2.toNat * 1)) i (eI (z.mem0 j) (len_fst A) u) (wV (.slice ((g 0).1) l.length ((g 0).2)) i (eE false 1 0 (c.2.toNat * 1) (z.mem0 j) u) (wR 1 [(0, .slice d b.length f), (1, iv c.1), (5, iv c.2), (21, .slice ((g 0).1) l.length ((g 0).2)), (22, iv c.1)] i ?_))
   obtain ⟨m, H, hm⟩ := gx_bind hm
   refine wC 76 #[.slice ((g 0).1) l.length ((g 0).2), iv c.1] ((c_l_szStoreS i l ((g 0).1) ((g 0).2) ((G.mem0 j).at_ u 0 ⟨Store, encStore, l, (g 0).1, (g 0).2⟩ (by kernel_rfl)) c.1 H).mono ?_)
   rintro e_ n ⟨rfl, B⟩
   have v := j.call0 B
   refine ⟨_, rfl, ?_⟩
   refine wR 1 [(0, .slice d b.length f), (1, iv m), (5, iv c.2)] n (W_nil (N_then (G_seq (G_region (wR 2 [(0, .slice d b.length f), (1, iv m), (5, iv c.2), (25, .bool (decide (m < 0)))] n (W_nil (N_then ?_)))))))
   rcases gx_bif hm with ⟨t, hm⟩ | ⟨t, hm⟩
   ·refine gT t (G_seq (G_region (wR 1 [(4, iv (-1))] n (W_nil (N_then (G_ret (N_block_ret (N_then_ret (N_then_ret ?_)))))))))
    obtain rfl := Option.some.inj hm
    obtain rfl := y _ rfl
    have hm := x; simp only [Sum.elim_inr] at hm
    refine N_block_ret (N_meet_ret (N_then_ret ?_))
    obtain rfl := Option.some.inj hm
    exact N_ret [iv (-1)] (rC RVs_nil) (⟨rfl, v.pk []⟩)
   refine gF t (G_skip (N_block (N_then (G_region (wR 3 [(0, .slice d b.length f), (1, iv m), (5, iv (w64 (c.2 + 1)))] n (W_nil ?_))))))
   obtain rfl := Option.some.inj hm
   exact N_loop fun a ha => ⟨_, rfl, v.pk [], ha.s⟩
  refine gF q (G_exit (N_then_exit (N_then_exit (N_block_eq ?_))))
  obtain rfl := Option.some.inj hm
  obtain rfl := y _ rfl
  exact N_meet fun a ha => ⟨_, rfl, j.pk [], ha.s⟩
 intro O L ⟨k, hout_, C, F⟩
 refine N_use F ?_
 subst hout_
 have hm := x; simp only [Sum.elim_inl] at hm
 refine N_then (G_seq (G_region (wR 2 [(4, iv k)] L (W_nil (N_then (G_ret ?_))))))
 obtain rfl := Option.some.inj hm
 exact N_ret [iv k] (rC RVs_nil) (⟨rfl, C.pk []⟩)
theorem c_l_toStoreS (w : World) (f : List Store) (g : Option Addr) (h : Nat) (x : rdS encStore w f g h) {r : (List Store)} (hm : M.l_toStoreS f = some r) :
  Calls Try.prog 79 #[.slice g f.length h] w fun e w' => ∃ (B : Option Addr) (v : Nat) (C : Seg), e = .returned (.slice B r.length v) ∧ ownS encStore r B v C ∧ Mem [] w w' [C] := by
 unfold M.l_toStoreS at hm
 refine cE Try.func79 ?_
 have M0 := Mem.refl [] w
 refine G_seq (G_region (wR 1 [(0, .slice g f.length h)] w (W_nil (N_then (G_seq (G_region (wR 2 [(0, .slice g f.length h), (6, iv (f.length : Int))] w ?_)))))))
 obtain ⟨A, L, hm⟩ := gx_bind hm
 refine W_make (E := encStore) _ _ _ (f.length : Int) 16 [iv 0, iv 0] ((⟨0, 0⟩ : Store) : Store) M0 (by kernel_rfl) rfl (by kernel_rfl) (by kernel_rfl) (by kernel_rfl) (by kernel_rfl) (by kernel_rfl) L ?_
 intro c d U D O G
 refine wR 1 [(0, .slice g f.length h), (3, .slice c A.length d)] D (W_nil (N_then (G_seq (G_seq (G_region (wR 1 [(0, .slice g f.length h), (3, .slice c A.length d), (4, iv 0)] D (W_nil (N_then ?_))))))))
 obtain ⟨m, T, N⟩ := gx_bind hm
 refine G_meet (fun a w' => ∃ (o : Seg), ownS encStore m c d o ∧ Mem [] w w' [o] ∧ Sat Try.f79.ntmps [(3, .slice c m.length d)] a) ?_ ?_
 ·refine G_block (G_while (σ := Int × List Store) (ρ := List Store) (fun b a w' => ∃ (n : Seg), ownS encStore b.2 c d n ∧ Mem [] w w' [n] ∧ Sat Try.f79.ntmps [(0, .slice g f.length h), (3, .slice c b.2.length d), (4, iv b.1)] a) T (fun a ha => ⟨U, O, G.pk [0], ha.s⟩) ?_)
  clear hm
  intro b ac hm R aa j ⟨n, t, l, J⟩
  refine G_use J (G_seq (G_seq (G_region (wR 4 [(0, .slice g f.length h), (3, .slice c b.2.length d), (4, iv b.1), (11, .bool (decide (b.1 < (f.length : Int))))] j (W_nil (N_then ?_))))))
  rcases gx_bif hm with ⟨q, hm⟩ | ⟨q, hm⟩
  ·refine gT q (G_skip (N_then (G_seq (G_block (G_region (wR 4 [(0, .slice g f.length h), (3, .slice c b.2.length d), (4, iv b.1), (14, .slice c b.2.length d), (15, iv b.1), (16, .slice g f.length h), (17, iv b.1)] j ?_))))))
   obtain ⟨k, y, hm⟩ := gx_bind hm
   refine wV (elemP g (b.1.toNat * 2)) j (eI (x.mem0 l) rfl y) (wV (.agg #[iv k.Word, iv k.Value]) j (eE true 2 0 (b.1.toNat * 2) (x.mem0 l) y) ?_)
   obtain ⟨i, S, hm⟩ := gx_bind hm
   refine wC 31 #[.agg #[iv k.Word, iv k.Value]] ((c_l_toStore j k S).mono ?_)
   rintro e_ W ⟨rfl, F⟩
   have u := l.call0 F
   refine ⟨_, rfl, ?_⟩
   obtain ⟨Z, z, hm⟩ := gx_bind hm
   refine wV (elemP c (b.1.toNat * 2)) W (eI (t.rd u 0 (by kernel_rfl)) rfl z) (wE true 2 b.1.toNat 0 (b.1.toNat * 2) Z i (.agg #[iv i.Word, iv i.Value]) 0 u t (gxIdx_spec z).2 ?_)
   intro X V Q H
   refine wX 3 (.slice c b.2.length d) (.slice c (b.2.set b.1.toNat i).length d) (by rw [@List.length_set _ b.2 b.1.toNat i]) (wX 14 (.slice c b.2.length d) (.slice c (b.2.set b.1.toNat i).length d) (by rw [@List.length_set _ b.2 b.1.toNat i]) (W_nil (N_block (N_then (G_region (wR 3 [(0, .slice g f.length h), (3, .slice c (b.2.set b.1.toNat i).length d), (4, iv (w64 (b.1 + 1)))] X (W_nil ?_)))))))
   obtain rfl := Option.some.inj hm
   exact N_loop fun a ha => ⟨_, rfl, V, Q, H.pk [0], ha.s⟩
  refine gF q (G_exit (N_then_exit (N_then_exit (N_block_eq ?_))))
  obtain rfl := Option.some.inj hm
  obtain rfl := R _ rfl
  exact N_meet fun a ha => ⟨n, t, l.pk [0], ha.s⟩
 intro ab Y ⟨o, P, I, K⟩
 refine N_use K ?_
 have hm := N
 refine N_then (G_seq (G_region (wR 2 [(2, .slice c m.length d)] Y (W_nil (N_then (G_ret ?_))))))
 obtain rfl := Option.some.inj hm
 exact N_ret [.slice c m.length d] (rC RVs_nil) (⟨c, d, o, rfl, P, I.pk [0]⟩)
theorem c_l_toStoreSS (w : World) (f : List (List Store)) (g : Option Addr) (h : Nat) (af : rdD (deepL encStore) w f g h) {r : (List (List Store))} (hm : M.l_toStoreSS f = some r) :
  Calls Try.prog 37 #[.slice g f.length h] w fun e w' => ∃ (T : Option Addr) (L : Nat) (U : Seg) (V : Seg), e = .returned (.slice T r.length L) ∧ ownD (deepL encStore) r T L U V ∧ Mem [] w w' [U, V] := by
 unfold M.l_toStoreSS at hm
 refine cE Try.func37 ?_
 have M0 := Mem.refl [] w
 refine G_seq (G_region (wR 1 [(0, .slice g f.length h)] w (W_nil (N_then (G_seq (G_region (wR 2 [(0, .slice g f.length h), (6, iv (f.length : Int))] w ?_)))))))
 obtain ⟨S, ak, hm⟩ := gx_bind hm
 refine W_makeD (D := (deepL encStore)) _ _ _ (f.length : Int) 24 [.slice none 0 0] ([] : List Store) (plOf []) M0 (by kernel_rfl) rfl (by kernel_rfl) (by kernel_rfl) (by kernel_rfl) (by kernel_rfl) (by kernel_rfl) (by intro i hi; simp [deepL] at hi; first | (subst hi; exact ⟨rfl, rfl, rfl⟩) | (rcases hi with rfl | rfl | rfl <;> exact ⟨rfl, rfl, rfl⟩) | (rcases hi with rfl | rfl <;> exact ⟨rfl, rfl, rfl⟩)) ak ?_
 intro c d a3 W N Y
 have J := Y.addNil
 obtain ⟨az, n5918e⟩ : ∃ s : Seg, s = [] := ⟨_, rfl⟩
 rw [← n5918e] at N J
 refine wR 1 [(0, .slice g f.length h), (3, .slice c S.length d)] W (W_nil (N_then (G_seq (G_seq (G_region (wR 1 [(0, .slice g f.length h), (3, .slice c S.length d), (4, iv 0)] W (W_nil (N_then ?_))))))))
 obtain ⟨v, aw, al⟩ := gx_bind hm
 refine G_meet (fun a w' => ∃ (A : Seg), ∃ (B : Seg), ownD (deepL encStore) v c d A B ∧ Mem [] w w' [A, B] ∧ Sat Try.f37.ntmps [(3, .slice c v.length d)] a) ?_ ?_
 ·refine G_block (G_while (σ := Int × List (List Store)) (ρ := List (List Store)) (fun b a w' => ∃ (y : Seg), ∃ (z : Seg), ownD (deepL encStore) b.2 c d y z ∧ Mem [] w w' [y, z] ∧ Sat Try.f37.ntmps [(0, .slice g f.length h), (3, .slice c b.2.length d), (4, iv b.1)] a) aw (fun a ha => ⟨a3, az, N, J.pk [0, 1], ha.s⟩) ?_)
  clear hm
  intro b bb hm aq a7 o ⟨y, z, O, l, ag⟩
  refine G_use ag (G_seq (G_seq (G_region (wR 4 [(0, .slice g f.length h), (3, .slice c b.2.length d), (4, iv b.1), (11, .bool (decide (b.1 < (f.length : Int))))] o (W_nil (N_then ?_))))))
  rcases gx_bif hm with ⟨G, hm⟩ | ⟨G, hm⟩
  ·refine gT G (G_skip (N_then (G_seq (G_block (G_region (wR 4 [(0, .slice g f.length h), (3, .slice c b.2.length d), (4, iv b.1), (14, .slice c b.2.length d), (15, iv b.1), (16, .slice g f.length h), (17, iv b.1)] o ?_))))))
   obtain ⟨F, ax, hm⟩ := gx_bind hm
   obtain ⟨bc, R, P, ai⟩ := id af
   obtain ⟨k, H⟩ := gxIdx_fst R ax
   refine wV (elemP g (b.1.toNat * 1)) o (eI (P.mem0 l) (len_fst R) H) (wV (.slice ((k 0).1) F.length ((k 0).2)) o (eE false 1 0 (b.1.toNat * 1) (P.mem0 l) H) ?_)
   obtain ⟨j, au, hm⟩ := gx_bind hm
   refine wC 79 #[.slice ((k 0).1) F.length ((k 0).2)] ((c_l_toStoreS o F ((k 0).1) ((k 0).2) ((ai.mem0 l).at_ H 0 ⟨Store, encStore, F, (k 0).1, (k 0).2⟩ (by kernel_rfl)) au).mono ?_)
   rintro e_ a4 ⟨x, q, C, rfl, an, X⟩
   have K := l.call X
   refine ⟨_, rfl, ?_⟩
   obtain ⟨a6, ay, hm⟩ := gx_bind hm
   obtain ⟨bd, u, Q, aj⟩ := id O
   obtain ⟨ae, t⟩ := gxIdx_fst u ay
   refine wV (elemP c (b.1.toNat * 1)) a4 (eI (Q.rd K 0 (by kernel_rfl)) (len_fst u) t) ?_
   obtain ⟨m, a0, n, av, a9, ar⟩ := aj.lens (gxIdx_spec t).2
   have Z := K.cut 1 (sa := m) (sb := a0) (sc := n) av (by kernel_rfl)
   refine wE false 1 b.1.toNat 0 (b.1.toNat * 1) (a6, ae) (j, (plOf [(x, q)])) (.slice x j.length q) 0 Z Q (gxIdx_spec t).2 ?_
   intro I E ao aa
   have ab : Mem [] w I [E, m, C, n] := aa.pk [0, 1, 2, 4]
   have ac : Mem [] w I [E, (m ++ ((C ++ []) ++ n))] := ab.regroup (by simp)
   have ap : ownD (deepL encStore) (b.2.set b.1.toNat j) c d E (m ++ ((C ++ []) ++ n)) := ⟨_, set_fst u b.1.toNat (j, (plOf [(x, q)])), ao, (ar (j, (plOf [(x, q)])) _ (ownI_cons (i := ⟨Store, encStore, _, _, _⟩) an ownI_nil))⟩
   have ba := gxIdx_put j (gxIdx_down u t)
   refine wX 3 (.slice c b.2.length d) (.slice c (b.2.set b.1.toNat j).length d) (by rw [@List.length_set _ b.2 b.1.toNat j]) (wX 14 (.slice c b.2.length d) (.slice c (b.2.set b.1.toNat j).length d) (by rw [@List.length_set _ b.2 b.1.toNat j]) (W_nil (N_block (N_then (G_region (wR 3 [(0, .slice g f.length h), (3, .slice c (b.2.set b.1.toNat j).length d), (4, iv (w64 (b.1 + 1)))] I (W_nil ?_)))))))
   obtain rfl := Option.some.inj hm
   exact N_loop fun a ha => ⟨_, rfl, E, (m ++ ((C ++ []) ++ n)), ap, ac.pk [0, 1], ha.s⟩
  refine gF G (G_exit (N_then_exit (N_then_exit (N_block_eq ?_))))
  obtain rfl := Option.some.inj hm
  obtain rfl := aq _ rfl
  exact N_meet fun a ha => ⟨y, z, O, l.pk [0, 1], ha.s⟩
 intro a8 a5 ⟨A, B, am, ad, ah⟩
 refine N_use ah ?_
 have hm := al
 refine N_then (G_seq (G_region (wR 2 [(2, .slice c v.length d)] a5 (W_nil (N_then (G_ret ?_))))))
 obtain rfl := Option.some.inj hm
 exact N_ret [.slice c v.length d] (rC RVs_nil) (⟨c, d, A, B, rfl, am, ad.pk [0, 1]⟩)
theorem c_s_l19Stores (w : World) (b : Copying) (m : Option Addr) (j : Nat) (ae : rdS Gx.encI w b.Memory m j) (n : Option Addr) (k : Nat) (af : rdS Gx.encI w b.Copy n k) (o : Option Addr) (l : Nat) (ag : rdS Gx.encB w b.Dirty o l) (c : List (List Store)) (d : Option Addr) (g : Nat) (N : rdD (deepL encStore) w c d g) {r : Bool} (hm : M.s_l19Stores b c = some r) :
  Calls Try.prog 77 #[.agg #[.slice m b.Memory.length j, .slice n b.Copy.length k, .slice o b.Dirty.length l], .slice d c.length g] w fun e w' => e = .returned (.bool r) ∧ Mem [] w w' [] := by
 unfold M.s_l19Stores at hm
 refine cE Try.func77 ?_
 have M0 := Mem.refl [] w
 refine G_seq (G_region (wN (.cells ⟨[.slice m b.Memory.length j, .slice n b.Copy.length k, .slice o b.Dirty.length l]⟩ 28 (0, 0)) M0 ?_))
 intro h Y ac
 refine wR 1 [(1, .slice d c.length g), (2, pB h 0)] Y (W_nil (N_then (G_seq (G_seq (G_region (wR 1 [(1, .slice d c.length g), (2, pB h 0), (5, iv 0)] Y (W_nil (N_then ?_))))))))
 obtain ⟨ar, am, F⟩ := gx_bind hm
 refine G_meet (fun a w' => ∃ (W : Unit), ar = .inl W ∧ Mem [] w w' [] ∧ Sat Try.f77.ntmps [(1, .slice d c.length g)] a) ?_ ?_
 ·refine G_block (G_while (σ := Int) (ρ := (Unit) ⊕ (Bool)) (fun f a w' => Mem [] w w' [[(h, .cells ⟨[.slice m b.Memory.length j, .slice n b.Copy.length k, .slice o b.Dirty.length l]⟩ 28 (0, 0))]] ∧ Sat Try.f77.ntmps [(1, .slice d c.length g), (2, pB h 0), (5, iv f)] a) am (fun a ha => ⟨ac.pk [0], ha.s⟩) ?_)
  clear hm
  intro f a0 hm G av Z ⟨I, ah⟩
  refine G_use ah (G_seq (G_seq (G_region (wR 4 [(1, .slice d c.length g), (2, pB h 0), (5, iv f), (10, .bool (decide (f < (c.length : Int))))] Z (W_nil (N_then ?_))))))
  rcases gx_bif hm with ⟨B, hm⟩ | ⟨B, hm⟩
  ·refine gT B (G_skip (N_then (G_seq (G_block (G_seq (G_seq (G_region (wR 1 [(1, .slice d c.length g), (2, pB h 0), (5, iv f), (6, iv 0)] Z (W_nil (N_then ?_))))))))))
   obtain ⟨au, an, R⟩ := gx_bind hm
   refine G_meet (fun a w' => ∃ (X : Unit), au = .inl X ∧ Mem [] w w' [[(h, .cells ⟨[.slice m b.Memory.length j, .slice n b.Copy.length k, .slice o b.Dirty.length l]⟩ 28 (0, 0))]] ∧ Sat Try.f77.ntmps [(1, .slice d c.length g), (2, pB h 0), (5, iv f)] a) ?_ ?_
   ·refine G_block (G_while (σ := Int) (ρ := (Unit) ⊕ (Bool)) (fun i a w' => Mem [] w w' [[(h, .cells ⟨[.slice m b.Memory.length j, .slice n b.Copy.length k, .slice o b.Dirty.length l]⟩ 28 (0, 0))]] ∧ Sat Try.f77.ntmps [(1, .slice d c.length g), (2, pB h 0), (5, iv f), (6, iv i)] a) an (fun a ha => ⟨I.pk [0], ha.s⟩) ?_)
    clear hm
    intro i a3 hm S aw w6435 ⟨u, ai⟩
    refine G_use ai (G_seq (G_seq (G_region (wR 3 [(1, .slice d c.length g), (2, pB h 0), (5, iv f), (6, iv i), (13, iv i), (14, .slice d c.length g), (15, iv f)] w6435 ?_))))
    obtain ⟨aa, ao, hm⟩ := gx_bind hm
    obtain ⟨a4, z, y, Q⟩ := id N
    obtain ⟨K, O⟩ := gxIdx_fst z ao
    refine wV (elemP d (f.toNat * 1)) w6435 (eI (y.mem0 u) (len_fst z) O) (wV (.slice ((K 0).1) aa.length ((K 0).2)) w6435 (eE false 1 0 (f.toNat * 1) (y.mem0 u) O) (wR 2 [(1, .slice d c.length g), (2, pB h 0), (5, iv f), (6, iv i), (19, .bool (decide (i < (aa.length : Int))))] w6435 (W_nil (N_then ?_))))
    rcases gx_bif hm with ⟨C, hm⟩ | ⟨C, hm⟩
    ·refine gT C (G_skip (N_then (G_seq (G_block (G_seq (G_quiet (by kernel_rfl) (by kernel_rfl) u (zV (.agg #[.slice m b.Memory.length j, .slice n b.Copy.length k, .slice o b.Dirty.length l]) (fun w_ M_ => (eL true 3 0 (M_.blk 0 rfl))) (zR [.slice d c.length g, iv f] [(1, .slice d c.length g), (2, pB h 0), (5, iv f), (6, iv i), (22, .agg #[.slice m b.Memory.length j, .slice n b.Copy.length k, .slice o b.Dirty.length l]), (23, .slice d c.length g), (24, iv f)] ?_))))))))
     obtain ⟨A, ap, hm⟩ := gx_bind hm
     obtain ⟨q, x⟩ := gxIdx_fst z ap
     refine zV (elemP d (f.toNat * 1)) (fun w_ M_ => (eI (y.mem0 M_) (len_fst z) x)) (zV (.slice ((q 0).1) A.length ((q 0).2)) (fun w_ M_ => (eE false 1 0 (f.toNat * 1) (y.mem0 M_) x)) (zR [iv i] [(1, .slice d c.length g), (2, pB h 0), (5, iv f), (6, iv i), (22, .agg #[.slice m b.Memory.length j, .slice n b.Copy.length k, .slice o b.Dirty.length l]), (26, .slice ((q 0).1) A.length ((q 0).2)), (27, iv i)] ?_))
     obtain ⟨t, U, hm⟩ := gx_bind hm
     refine zV (elemP ((q 0).1) (i.toNat * 2)) (fun w_ M_ => (eI ((Q.mem0 M_).at_ x 0 ⟨Store, encStore, A, (q 0).1, (q 0).2⟩ (by kernel_rfl)) rfl U)) (zV (.agg #[iv t.Word, iv t.Value]) (fun w_ M_ => (eE true 2 0 (i.toNat * 2) ((Q.mem0 M_).at_ x 0 ⟨Store, encStore, A, (q 0).1, (q 0).2⟩ (by kernel_rfl)) U)) ?_)
     obtain ⟨H, al, hm⟩ := gx_bind hm
     refine Z_call 68 #[.agg #[.slice m b.Memory.length j, .slice n b.Copy.length k, .slice o b.Dirty.length l], .agg #[iv t.Word, iv t.Value]] (.bool H) (by kernel_rfl) (fun w_ => by kernel_rfl) (fun w_ M_ => (c_s_l19Store w_ b m j (ae.mem0 M_) n k (af.mem0 M_) o l (ag.mem0 M_) t al).mono fun e w2_ h_ => ⟨h_.1, M_.call0 h_.2⟩) (zR [.bool (!H)] [(1, .slice d c.length g), (2, pB h 0), (5, iv f), (6, iv i), (31, .bool (!H))] (Z_end fun w6460 J => (N_then ?_)))
     rcases gx_bif hm with ⟨D, hm⟩ | ⟨D, hm⟩
     ·refine gT D (G_seq (G_region (wR 1 [(4, .bool false)] w6460 (W_nil (N_then (G_ret (N_block_ret (N_then_ret (N_then_ret ?_)))))))))
      obtain rfl := Option.some.inj hm
      obtain rfl := S _ rfl
      have hm := R; simp only [Sum.elim_inr] at hm
      refine N_block_ret (N_meet_ret (N_then_ret (N_block_ret (N_then_ret (N_then_ret ?_)))))
      obtain rfl := Option.some.inj hm
      obtain rfl := G _ rfl
      have hm := F; simp only [Sum.elim_inr] at hm
      refine N_block_ret (N_meet_ret (N_then_ret ?_))
      obtain rfl := Option.some.inj hm
      exact N_ret [.bool false] (rC RVs_nil) (⟨rfl, J.pk []⟩)
     refine gF D (G_skip (N_block (N_then (G_region (wR 3 [(1, .slice d c.length g), (2, pB h 0), (5, iv f), (6, iv (w64 (i + 1)))] w6460 (W_nil ?_))))))
     obtain rfl := Option.some.inj hm
     exact N_loop fun a ha => ⟨_, rfl, J.pk [0], ha.s⟩
    refine gF C (G_exit (N_then_exit (N_then_exit (N_block_eq ?_))))
    obtain rfl := Option.some.inj hm
    obtain rfl := S _ rfl
    exact N_meet fun a ha => ⟨_, rfl, u.pk [0], ha.s⟩
   intro ax w6464 ⟨X, hout_, v, aj⟩
   refine N_use aj ?_
   subst hout_
   have hm := R; simp only [Sum.elim_inl] at hm
   refine N_then (G_seq (G_region (wR 2 [(1, .slice d c.length g), (2, pB h 0), (5, iv f), (32, .slice d c.length g), (33, iv f)] w6464 ?_)))
   obtain ⟨ab, aq, hm⟩ := gx_bind hm
   obtain ⟨a5, V, T, az⟩ := id N
   obtain ⟨L, P⟩ := gxIdx_fst V aq
   refine wV (elemP d (f.toNat * 1)) w6464 (eI (T.mem0 v) (len_fst V) P) (wV (.slice ((L 0).1) ab.length ((L 0).2)) w6464 (eE false 1 0 (f.toNat * 1) (T.mem0 v) P) (wR 2 [(1, .slice d c.length g), (2, pB h 0), (5, iv f), (37, .bool (decide ((ab.length : Int) > 12)))] w6464 (W_nil (N_then ?_))))
   rcases gx_bif hm with ⟨E, hm⟩ | ⟨E, hm⟩
   ·refine gT E (G_seq (G_region (wR 1 [(4, .bool false)] w6464 (W_nil (N_then (G_ret (N_block_ret (N_then_ret (N_then_ret ?_)))))))))
    obtain rfl := Option.some.inj hm
    obtain rfl := G _ rfl
    have hm := F; simp only [Sum.elim_inr] at hm
    refine N_block_ret (N_meet_ret (N_then_ret ?_))
    obtain rfl := Option.some.inj hm
    exact N_ret [.bool false] (rC RVs_nil) (⟨rfl, v.pk []⟩)
   refine gF E (G_skip (N_block (N_then (G_region (wR 3 [(1, .slice d c.length g), (2, pB h 0), (5, iv (w64 (f + 1)))] w6464 (W_nil ?_))))))
   obtain rfl := Option.some.inj hm
   exact N_loop fun a ha => ⟨_, rfl, v.pk [0], ha.s⟩
  refine gF B (G_exit (N_then_exit (N_then_exit (N_block_eq ?_))))
  obtain rfl := Option.some.inj hm
  obtain rfl := G _ rfl
  exact N_meet fun a ha => ⟨_, rfl, I.pk [], ha.s⟩
 intro ay w6477 ⟨W, hout_, ad, ak⟩
 refine N_use ak ?_
 subst hout_
 have hm := F; simp only [Sum.elim_inl] at hm
 refine N_then (G_seq (G_region (wR 4 [(4, .bool (decide ((c.length : Int) ≤ 8)))] w6477 (W_nil (N_then (G_ret ?_))))))
 obtain rfl := Option.some.inj hm
 exact N_ret [.bool (decide ((c.length : Int) ≤ 8))] (rC RVs_nil) (⟨rfl, ad.pk []⟩)
theorem c_s_l19Run (w : World) (z : Copying) (an : Option Addr) (ak : Nat) (df : rdS Gx.encI w z.Memory an ak) (ao : Option Addr) (al : Nat) (dg : rdS Gx.encI w z.Copy ao al) (ap : Option Addr) (am : Nat) (dh : rdS Gx.encB w z.Dirty ap am) (q : List (List Store)) (m : Option Addr) (t : Nat) (di : rdD (deepL encStore) w q m t) (x : Int) {r : Copying × Int} (hm : M.s_l19Run z q x = some r) :
  Calls Try.prog 78 #[.agg #[.slice an z.Memory.length ak, .slice ao z.Copy.length al, .slice ap z.Dirty.length am], .slice m q.length t, iv x] w fun e w' => ∃ (cn : Option Addr) (ca : Nat) (cq : Seg), ∃ (co : Option Addr) (cb : Nat) (cr : Seg), ∃ (cp : Option Addr) (cc : Nat) (ct : Seg), e = .returned (.tuple #[.agg #[.slice cn r.1.Memory.length ca, .slice co r.1.Copy.length cb, .slice cp r.1.Dirty.length cc], iv r.2]) ∧ ownS Gx.encI r.1.Memory cn ca cq ∧ ownS Gx.encI r.1.Copy co cb cr ∧ ownS Gx.encB r.1.Dirty cp cc ct ∧ Mem [] w w' [cq, cr, ct] := by
 unfold M.s_l19Run at hm
 refine cE Try.func78 ?_
 have M0 := Mem.refl [] w
 refine G_seq (G_region (wN (.cells ⟨[.slice an z.Memory.length ak, .slice ao z.Copy.length al, .slice ap z.Dirty.length am]⟩ 28 (0, 0)) M0 ?_))
 intro de e5 c0
 refine wN (.cells ⟨[.slice none 0 0, .slice none 0 0, .slice none 0 0]⟩ 28 (0, 0)) c0 ?_
 intro n bz av
 refine wR 1 [(1, .slice m q.length t), (2, iv x), (3, pB de 0), (6, pB n 0)] bz (W_nil (N_then (G_seq (G_region (wV (.agg #[.slice an z.Memory.length ak, .slice ao z.Copy.length al, .slice ap z.Dirty.length am]) bz (eL true 3 0 (av.blk 0 rfl)) ?_)))))
 obtain ⟨aq, d7, hm⟩ := gx_bind hm
 refine wC 96 #[.agg #[.slice an z.Memory.length ak, .slice ao z.Copy.length al, .slice ap z.Dirty.length am]] ((c_s_l19Own bz z an ak (df.mem0 av) ao al (dg.mem0 av) ap am (dh.mem0 av) d7).mono ?_)
 rintro e_ e6 ⟨bs, bk, ee, bt, bl, ef, bu, bm, eg, rfl, dq, dr, ds, cx⟩
 have c1 := av.call cx
 refine ⟨_, rfl, ?_⟩
 refine wN (.cells ⟨[.slice none 0 0, .slice none 0 0, .slice none 0 0]⟩ 28 (0, 0)) c1 ?_
 intro u e7 c2
 refine wS true 3 0 (.agg #[.slice bs aq.Memory.length bk, .slice bt aq.Copy.length bl, .slice bu aq.Dirty.length bm]) 5 [.slice bs aq.Memory.length bk, .slice bt aq.Copy.length bl, .slice bu aq.Dirty.length bm] c2 rfl ?_
 intro cu c3
 refine wR 1 [(1, .slice m q.length t), (2, iv x), (6, pB n 0), (8, pB u 0), (9, iv 0)] cu (W_nil (N_then (G_seq (G_seq (G_region (wR 1 [(1, .slice m q.length t), (2, iv x), (6, pB n 0), (8, pB u 0), (9, iv 0), (10, iv 0)] cu (W_nil (N_then ?_))))))))
 obtain ⟨l, ea, dn⟩ := gx_bind hm
 refine G_meet (fun a w' => ∃ (G : Option Addr), ∃ (D : Nat), ∃ (bc : Seg), ∃ (H : Option Addr), ∃ (E : Nat), ∃ (bd : Seg), ∃ (I : Option Addr), ∃ (F : Nat), ∃ (be : Seg), ownS Gx.encI l.2.1 G D bc ∧ ownS Gx.encI l.2.2.1 H E bd ∧ ownS Gx.encB l.2.2.2 I F be ∧ Mem [] w w' [[(n, .cells ⟨[.slice none 0 0, .slice none 0 0, .slice none 0 0]⟩ 28 (0, 0))], [(u, .cells ⟨[.slice G l.2.1.length D, .slice H l.2.2.1.length E, .slice I l.2.2.2.length F]⟩ 28 (0, 0))], bc, bd, be] ∧ Sat Try.f78.ntmps [(6, pB n 0), (8, pB u 0), (9, iv l.1)] a) ?_ ?_
 ·refine G_block (G_while (σ := Int × Int × List Int × List Int × List Bool) (ρ := Int × List Int × List Int × List Bool) (fun c a w' => ∃ (Q : Option Addr), ∃ (J : Nat), ∃ (ag : Seg), ∃ (S : Option Addr), ∃ (K : Nat), ∃ (ah : Seg), ∃ (T : Option Addr), ∃ (L : Nat), ∃ (ai : Seg), ownS Gx.encI c.2.2.1 Q J ag ∧ ownS Gx.encI c.2.2.2.1 S K ah ∧ ownS Gx.encB c.2.2.2.2 T L ai ∧ Mem [] w w' [[(n, .cells ⟨[.slice none 0 0, .slice none 0 0, .slice none 0 0]⟩ 28 (0, 0))], [(u, .cells ⟨[.slice Q c.2.2.1.length J, .slice S c.2.2.2.1.length K, .slice T c.2.2.2.2.length L]⟩ 28 (0, 0))], ag, ah, ai] ∧ Sat Try.f78.ntmps [(1, .slice m q.length t), (2, iv x), (6, pB n 0), (8, pB u 0), (9, iv c.1), (10, iv c.2.1)] a) ea (fun a ha => ⟨bs, bk, ee, bt, bl, ef, bu, bm, eg, dq, dr, ds, c3.pk [1, 5, 2, 3, 4], ha.s⟩) ?_)
  clear hm
  intro c fa hm d5 e1 bi ⟨Q, J, ag, S, K, ah, T, L, ai, cg, ch, ci, aj, dj⟩
  refine G_use dj (G_seq (G_seq (G_region (wR 4 [(1, .slice m q.length t), (2, iv x), (6, pB n 0), (8, pB u 0), (9, iv c.1), (10, iv c.2.1), (19, .bool (decide (c.2.1 < (q.length : Int))))] bi (W_nil (N_then ?_))))))
  rcases gx_bif hm with ⟨bq, hm⟩ | ⟨bq, hm⟩
  ·refine gT bq (G_skip (N_then (G_seq (G_block (G_seq (G_region (wV (.agg #[.slice Q c.2.2.1.length J, .slice S c.2.2.2.1.length K, .slice T c.2.2.2.2.length L]) bi (eL true 3 0 (aj.blk 1 rfl)) (wR 1 [(1, .slice m q.length t), (2, iv x), (6, pB n 0), (8, pB u 0), (9, iv c.1), (10, iv c.2.1), (23, .agg #[.slice Q c.2.2.1.length J, .slice S c.2.2.2.1.length K, .slice T c.2.2.2.2.length L]), (24, iv x)] bi ?_))))))))
   obtain ⟨y, d8, hm⟩ := gx_bind hm
   refine wC 67 #[.agg #[.slice Q c.2.2.1.length J, .slice S c.2.2.2.1.length K, .slice T c.2.2.2.2.length L], iv x] ((c_s_l19Round bi (⟨c.2.2.1, c.2.2.2.1, c.2.2.2.2⟩ : Copying) Q J (cg.rd aj 2 (by kernel_rfl)) S K (ch.rd aj 3 (by kernel_rfl)) T L (ci.rd aj 4 (by kernel_rfl)) x d8).mono ?_)
   rintro e_ en ⟨a9, a3, eh, ba, a4, ei, bb, a5, ej, rfl, dw, dx, dy, cy⟩
   have c4 := aj.call cy
   refine ⟨_, rfl, ?_⟩
   refine wR 3 [(1, .slice m q.length t), (2, iv x), (6, pB n 0), (8, pB u 0), (9, iv c.1), (10, iv c.2.1), (26, .agg #[.slice a9 y.1.Memory.length a3, .slice ba y.1.Copy.length a4, .slice bb y.1.Dirty.length a5]), (27, iv y.2)] en (wN (.cells ⟨[.slice none 0 0, .slice none 0 0, .slice none 0 0]⟩ 28 (0, 0)) c4 ?_)
   intro C e8 c5
   refine wS true 3 0 (.agg #[.slice a9 y.1.Memory.length a3, .slice ba y.1.Copy.length a4, .slice bb y.1.Dirty.length a5]) 8 [.slice a9 y.1.Memory.length a3, .slice ba y.1.Copy.length a4, .slice bb y.1.Dirty.length a5] c5 rfl ?_
   intro b0 c6
   refine wR 1 [(1, .slice m q.length t), (2, iv x), (6, pB n 0), (8, pB u 0), (9, iv c.1), (10, iv c.2.1), (11, pB C 0), (12, iv y.2)] b0 (W_nil (N_then (G_seq (G_region (wR 4 [(1, .slice m q.length t), (2, iv x), (6, pB n 0), (8, pB u 0), (9, iv (w64 (c.1 + y.2))), (10, iv c.2.1), (11, pB C 0)] b0 (W_nil (N_then (G_seq (G_seq (G_region (wR 1 [(1, .slice m q.length t), (2, iv x), (6, pB n 0), (8, pB u 0), (9, iv (w64 (c.1 + y.2))), (10, iv c.2.1), (11, pB C 0), (13, iv 0)] b0 (W_nil (N_then ?_)))))))))))))
   obtain ⟨B, eb, dp⟩ := gx_bind hm
   refine G_meet (fun a w' => ∃ (ad : Option Addr), ∃ (aa : Nat), ∃ (bf : Seg), ∃ (ae : Option Addr), ∃ (ab : Nat), ∃ (bg : Seg), ∃ (af : Option Addr), ∃ (ac : Nat), ∃ (bh : Seg), ownS Gx.encI B.1 ad aa bf ∧ ownS Gx.encI B.2.1 ae ab bg ∧ ownS Gx.encB B.2.2 af ac bh ∧ Mem [] w w' [[(n, .cells ⟨[.slice none 0 0, .slice none 0 0, .slice none 0 0]⟩ 28 (0, 0))], [(u, .cells ⟨[.slice Q c.2.2.1.length J, .slice S c.2.2.2.1.length K, .slice T c.2.2.2.2.length L]⟩ 28 (0, 0))], ag, ah, ai, [(C, .cells ⟨[.slice ad B.1.length aa, .slice ae B.2.1.length ab, .slice af B.2.2.length ac]⟩ 28 (0, 0))], bf, bg, bh] ∧ Sat Try.f78.ntmps [(1, .slice m q.length t), (2, iv x), (6, pB n 0), (8, pB u 0), (9, iv (w64 (c.1 + y.2))), (10, iv c.2.1), (11, pB C 0)] a) ?_ ?_
   ·refine G_block (G_while (σ := Int × List Int × List Int × List Bool) (ρ := List Int × List Int × List Bool) (fun d a w' => ∃ (U : Option Addr), ∃ (N : Nat), ∃ (aw : Seg), ∃ (V : Option Addr), ∃ (O : Nat), ∃ (ax : Seg), ∃ (W : Option Addr), ∃ (P : Nat), ∃ (ay : Seg), ownS Gx.encI d.2.1 U N aw ∧ ownS Gx.encI d.2.2.1 V O ax ∧ ownS Gx.encB d.2.2.2 W P ay ∧ Mem [] w w' [[(n, .cells ⟨[.slice none 0 0, .slice none 0 0, .slice none 0 0]⟩ 28 (0, 0))], [(u, .cells ⟨[.slice Q c.2.2.1.length J, .slice S c.2.2.2.1.length K, .slice T c.2.2.2.2.length L]⟩ 28 (0, 0))], ag, ah, ai, [(C, .cells ⟨[.slice U d.2.1.length N, .slice V d.2.2.1.length O, .slice W d.2.2.2.length P]⟩ 28 (0, 0))], aw, ax, ay] ∧ Sat Try.f78.ntmps [(1, .slice m q.length t), (2, iv x), (6, pB n 0), (8, pB u 0), (9, iv (w64 (c.1 + y.2))), (10, iv c.2.1), (11, pB C 0), (13, iv d.1)] a) eb (fun a ha => ⟨a9, a3, eh, ba, a4, ei, bb, a5, ej, dw, dx, dy, c6.pk [0, 1, 2, 3, 4, 8, 5, 6, 7], ha.s⟩) ?_)
    clear hm
    intro d fb hm d6 e2 bj ⟨U, N, aw, V, O, ax, W, P, ay, cj, ck, cl, az, dk⟩
    refine G_use dk (G_seq (G_seq (G_region (wR 3 [(1, .slice m q.length t), (2, iv x), (6, pB n 0), (8, pB u 0), (9, iv (w64 (c.1 + y.2))), (10, iv c.2.1), (11, pB C 0), (13, iv d.1), (31, iv d.1), (32, .slice m q.length t), (33, iv c.2.1)] bj ?_))))
    obtain ⟨b1, ec, hm⟩ := gx_bind hm
    obtain ⟨fc, a8, a7, cf⟩ := id di
    obtain ⟨cd, ce⟩ := gxIdx_fst a8 ec
    refine wV (elemP m (c.2.1.toNat * 1)) bj (eI (a7.mem0 az) (len_fst a8) ce) (wV (.slice ((cd 0).1) b1.length ((cd 0).2)) bj (eE false 1 0 (c.2.1.toNat * 1) (a7.mem0 az) ce) (wR 2 [(1, .slice m q.length t), (2, iv x), (6, pB n 0), (8, pB u 0), (9, iv (w64 (c.1 + y.2))), (10, iv c.2.1), (11, pB C 0), (13, iv d.1), (37, .bool (decide (d.1 < (b1.length : Int))))] bj (W_nil (N_then ?_))))
    rcases gx_bif hm with ⟨br, hm⟩ | ⟨br, hm⟩
    ·refine gT br (G_skip (N_then (G_seq (G_block ?_))))
     obtain ⟨au, ed, hm⟩ := gx_bind hm
     obtain ⟨A, a6⟩ := gxIdx_fst a8 ed
     obtain ⟨X, cm, hm⟩ := gx_bind hm
     refine G_sub [(1, .slice m q.length t), (2, iv x), (6, pB n 0), (8, pB u 0), (9, iv (w64 (c.1 + y.2))), (10, iv c.2.1), (11, pB C 0), (13, iv d.1), (37, .bool (decide (d.1 < (b1.length : Int))))] (by kernel_rfl) (G_dagL 8 [[], [], [], [1, 2], [3], [], [4, 5], [6]] [[], [], [], [], [], [], [], []] [[], [], [], [], [], [], [], []] [[], [], [], [], [], [], [], []] [[], [], [], [], [], [], [], []] [[], [], [], [], [], [], [], []] (fun _ => []) (fun i => ([fun f v s => v = (.agg #[.slice U d.2.1.length N, .slice V d.2.2.1.length O, .slice W d.2.2.2.length P] : Value) ∧ s = [], fun f v s => v = (.slice m q.length t : Value) ∧ s = [], fun f v s => v = (iv c.2.1 : Value) ∧ s = [], fun f v s => v = (elemP m (c.2.1.toNat * 1) : Value) ∧ s = [], fun f v s => v = (.slice ((A 0).1) au.length ((A 0).2) : Value) ∧ s = [], fun f v s => v = (iv d.1 : Value) ∧ s = [], fun f v s => v = (elemP ((A 0).1) (d.1.toNat * 2) : Value) ∧ s = [], fun f v s => v = (.agg #[iv X.Word, iv X.Value] : Value) ∧ s = []] : List ((Nat → Value) → Value → Seg → Prop)).getD i (fun _ _ _ => False)) (fun j f v => ∃ s, (fun i => ([fun f v s => v = (.agg #[.slice U d.2.1.length N, .slice V d.2.2.1.length O, .slice W d.2.2.2.length P] : Value) ∧ s = [], fun f v s => v = (.slice m q.length t : Value) ∧ s = [], fun f v s => v = (iv c.2.1 : Value) ∧ s = [], fun f v s => v = (elemP m (c.2.1.toNat * 1) : Value) ∧ s = [], fun f v s => v = (.slice ((A 0).1) au.length ((A 0).2) : Value) ∧ s = [], fun f v s => v = (iv d.1 : Value) ∧ s = [], fun f v s => v = (elemP ((A 0).1) (d.1.toNat * 2) : Value) ∧ s = [], fun f v s => v = (.agg #[iv X.Word, iv X.Value] : Value) ∧ s = []] : List ((Nat → Value) → Value → Seg → Prop)).getD i (fun _ _ _ => False)) j f v s) [] [0, 7] [] (fun _ _ _ s h => ⟨s, h⟩) (by kernel_rfl) (by kernel_rfl) (az.preNil 8) (by kernel_rfl) (by kernel_rfl) (by kernel_rfl) (by kernel_rfl) (allOb_cons ?_ (allOb_cons ?_ (allOb_cons ?_ (allOb_cons ?_ (allOb_cons ?_ (allOb_cons ?_ (allOb_cons ?_ (allOb_cons ?_ allOb_nil)))))))) ?_)
     ·intro Z Y
      intro R eo b2
      exact wV (.agg #[.slice U d.2.1.length N, .slice V d.2.2.1.length O, .slice W d.2.2.2.length P]) eo (eL true 3 0 (b2.blk 5 rfl)) (W_nil (oE (.agg #[.slice U d.2.1.length N, .slice V d.2.2.1.length O, .slice W d.2.2.2.length P]) [] ⟨by kernel_rfl, rfl⟩ b2))
     ·intro Z Y
      intro R ep c7
      exact wR 1 [(41, .slice m q.length t)] ep (W_nil (oE (.slice m q.length t) [] ⟨by kernel_rfl, rfl⟩ c7))
     ·intro Z Y
      intro R er c8
      exact wR 1 [(42, iv c.2.1)] er (W_nil (oE (iv c.2.1) [] ⟨by kernel_rfl, rfl⟩ c8))
     ·intro Z Y
      intro v1_ hb1_
      obtain ⟨rfl, _⟩ := hb1_
      intro v2_ hb2_
      obtain ⟨rfl, _⟩ := hb2_
      intro R es b3
      exact wV (elemP m (c.2.1.toNat * 1)) es (eI (a7.mem0 b3) (len_fst a8) a6) (W_nil (oE (elemP m (c.2.1.toNat * 1)) [] ⟨by kernel_rfl, rfl⟩ b3))
     ·intro Z Y
      intro v3_ hb3_
      obtain ⟨rfl, _⟩ := hb3_
      intro R et b4
      exact wV (.slice ((A 0).1) au.length ((A 0).2)) et (eE false 1 0 (c.2.1.toNat * 1) (a7.mem0 b4) a6) (W_nil (oE (.slice ((A 0).1) au.length ((A 0).2)) [] ⟨by kernel_rfl, rfl⟩ b4))
     ·intro Z Y
      intro R eu c9
      exact wR 1 [(45, iv d.1)] eu (W_nil (oE (iv d.1) [] ⟨by kernel_rfl, rfl⟩ c9))
     ·intro Z Y
      intro v4_ hb4_
      obtain ⟨rfl, _⟩ := hb4_
      intro v5_ hb5_
      obtain ⟨rfl, _⟩ := hb5_
      intro R ev b5
      exact wV (elemP ((A 0).1) (d.1.toNat * 2)) ev (eI ((cf.mem0 b5).at_ a6 0 ⟨Store, encStore, au, (A 0).1, (A 0).2⟩ (by kernel_rfl)) rfl cm) (W_nil (oE (elemP ((A 0).1) (d.1.toNat * 2)) [] ⟨by kernel_rfl, rfl⟩ b5))
     ·intro Z Y
      intro v6_ hb6_
      obtain ⟨rfl, _⟩ := hb6_
      intro R ew b6
      exact wV (.agg #[iv X.Word, iv X.Value]) ew (eE true 2 0 (d.1.toNat * 2) ((cf.mem0 b6).at_ a6 0 ⟨Store, encStore, au, (A 0).1, (A 0).2⟩ (by kernel_rfl)) cm) (W_nil (oE (.agg #[iv X.Word, iv X.Value]) [] ⟨by kernel_rfl, rfl⟩ b6))
     intro Z Y
     intro v0_ hb0_
     obtain ⟨rfl, _⟩ := hb0_
     intro v7_ hb7_
     obtain ⟨rfl, _⟩ := hb7_
     intro cv da
     have a0 : Mem [] w cv [[(n, .cells ⟨[.slice none 0 0, .slice none 0 0, .slice none 0 0]⟩ 28 (0, 0))], [(u, .cells ⟨[.slice Q c.2.2.1.length J, .slice S c.2.2.2.1.length K, .slice T c.2.2.2.2.length L]⟩ 28 (0, 0))], ag, ah, ai, [(C, .cells ⟨[.slice U d.2.1.length N, .slice V d.2.2.1.length O, .slice W d.2.2.2.length P]⟩ 28 (0, 0))], aw, ax, ay] := da
     obtain ⟨ar, d9, hm⟩ := gx_bind hm
     refine wC 69 #[.agg #[.slice U d.2.1.length N, .slice V d.2.2.1.length O, .slice W d.2.2.2.length P], .agg #[iv X.Word, iv X.Value]] ((c_s_l19Write cv (⟨d.2.1, d.2.2.1, d.2.2.2⟩ : Copying) U N (cj.rd a0 6 (by kernel_rfl)) V O (ck.rd a0 7 (by kernel_rfl)) W P (cl.rd a0 8 (by kernel_rfl)) X d9).mono ?_)
     rintro e_ e9 ⟨bv, bn, ek, bw, bo, el, bx, bp, em, rfl, d2, d3, d4, cz⟩
     have db := a0.call cz
     refine ⟨_, rfl, ?_⟩
     refine wS true 3 0 (.agg #[.slice bv ar.Memory.length bn, .slice bw ar.Copy.length bo, .slice bx ar.Dirty.length bp]) 5 [.slice bv ar.Memory.length bn, .slice bw ar.Copy.length bo, .slice bx ar.Dirty.length bp] db rfl ?_
     intro ex dc
     refine W_nil (N_block (N_then (G_region (wR 3 [(1, .slice m q.length t), (2, iv x), (6, pB n 0), (8, pB u 0), (9, iv (w64 (c.1 + y.2))), (10, iv c.2.1), (11, pB C 0), (13, iv (w64 (d.1 + 1)))] ex (W_nil ?_)))))
     obtain rfl := Option.some.inj hm
     exact N_loop fun a ha => ⟨_, rfl, bv, bn, ek, bw, bo, el, bx, bp, em, d2, d3, d4, dc.pk [0, 1, 2, 3, 4, 5, 9, 10, 11], ha.s⟩
    refine gF br (G_exit (N_then_exit (N_then_exit (N_block_eq ?_))))
    obtain rfl := Option.some.inj hm
    obtain rfl := d6 _ rfl
    exact N_meet fun a ha => ⟨U, N, aw, V, O, ax, W, P, ay, cj, ck, cl, az.pk [0, 1, 2, 3, 4, 5, 6, 7, 8], ha.s⟩
   intro e3 ey ⟨ad, aa, bf, ae, ab, bg, af, ac, bh, dz, d0, d1, b7, dl⟩
   refine N_use dl ?_
   have hm := dp
   refine N_then (G_region (wV (.agg #[.slice ad B.1.length aa, .slice ae B.2.1.length ab, .slice af B.2.2.length ac]) ey (eL true 3 0 (b7.blk 5 rfl)) (wS true 3 0 (.agg #[.slice ad B.1.length aa, .slice ae B.2.1.length ab, .slice af B.2.2.length ac]) 1 [.slice ad B.1.length aa, .slice ae B.2.1.length ab, .slice af B.2.2.length ac] b7 rfl ?_)))
   intro ez dd
   refine W_nil (N_block (N_then (G_region (wR 3 [(1, .slice m q.length t), (2, iv x), (6, pB n 0), (8, pB u 0), (9, iv (w64 (c.1 + y.2))), (10, iv (w64 (c.2.1 + 1)))] ez (W_nil ?_)))))
   obtain rfl := Option.some.inj hm
   exact N_loop fun a ha => ⟨_, rfl, ad, aa, bf, ae, ab, bg, af, ac, bh, dz, d0, d1, dd.pk [0, 1, 6, 7, 8], ha.s⟩
  refine gF bq (G_exit (N_then_exit (N_then_exit (N_block_eq ?_))))
  obtain rfl := Option.some.inj hm
  obtain rfl := d5 _ rfl
  exact N_meet fun a ha => ⟨Q, J, ag, S, K, ah, T, L, ai, cg, ch, ci, aj.pk [0, 1, 2, 3, 4], ha.s⟩
 intro e4 cw ⟨G, D, bc, H, E, bd, I, F, be, dt, du, dv, b8, dm⟩
 refine N_use dm ?_
 have hm := dn
 refine N_then (G_seq (G_region (wV (.agg #[.slice G l.2.1.length D, .slice H l.2.2.1.length E, .slice I l.2.2.2.length F]) cw (eL true 3 0 (b8.blk 1 rfl)) (wR 1 [(6, pB n 0), (50, .agg #[.slice G l.2.1.length D, .slice H l.2.2.1.length E, .slice I l.2.2.2.length F]), (51, iv l.1)] cw (wS true 3 0 (.agg #[.slice G l.2.1.length D, .slice H l.2.2.1.length E, .slice I l.2.2.2.length F]) 0 [.slice G l.2.1.length D, .slice H l.2.2.1.length E, .slice I l.2.2.2.length F] b8 rfl ?_)))))
 intro e0 b9
 refine wR 1 [(6, pB n 0), (7, iv l.1)] e0 (W_nil (N_then (G_ret ?_)))
 obtain rfl := Option.some.inj hm
 exact N_ret [.agg #[.slice G l.2.1.length D, .slice H l.2.2.1.length E, .slice I l.2.2.2.length F], iv l.1] (RVs_cons (RV_cell (g := true) (k := 3) (b := n) (off := 0) (cs := [.slice G l.2.1.length D, .slice H l.2.2.1.length E, .slice I l.2.2.2.length F]) (e := 28) (fr := (0, 0)) (v := .agg #[.slice G l.2.1.length D, .slice H l.2.2.1.length E, .slice I l.2.2.2.length F]) (b9.blk 0 (b := n) (o := .cells ⟨[.slice G l.2.1.length D, .slice H l.2.2.1.length E, .slice I l.2.2.2.length F]⟩ 28 (0, 0)) (by kernel_rfl)) (by kernel_rfl) (by kernel_rfl) (by kernel_rfl)) (rC RVs_nil)) (⟨G, D, bc, H, E, bd, I, F, be, rfl, dt, du, dv, b9.pk [2, 3, 4]⟩)
theorem c_s_RoundsUntil (w : World) (c : Copying) (B : Option Addr) (y : Nat) (W : rdS Gx.encI w c.Memory B y) (C : Option Addr) (z : Nat) (X : rdS Gx.encI w c.Copy C z) (E : Option Addr) (A : Nat) (Y : rdS Gx.encB w c.Dirty E A) (k : List (List Store)) (g : Option Addr) (d : Nat) (au : rdD (deepL encStore) w k g d) (l : Int) (F : Int) {r : Int × Bool} (hm : M.s_RoundsUntil c k l F = some r) :
  Calls Try.prog 36 #[.agg #[.slice B c.Memory.length y, .slice C c.Copy.length z, .slice E c.Dirty.length A], .slice g k.length d, iv l, iv F] w fun e w' => e = .returned (.tuple #[iv r.1, .bool r.2]) ∧ Mem [] w w' [] := by
 unfold M.s_RoundsUntil at hm
 refine cE Try.func36 ?_
 have M0 := Mem.refl [] w
 refine G_seq (G_region (wN (.cells ⟨[.slice B c.Memory.length y, .slice C c.Copy.length z, .slice E c.Dirty.length A]⟩ 28 (0, 0)) M0 ?_))
 intro x ai T
 refine wR 2 [(1, .slice g k.length d), (2, iv l), (3, iv F), (4, pB x 0)] ai (W_nil (N_then (G_seq (G_seq ?_))))
 obtain ⟨b2, bs, br⟩ := gx_bind hm
 refine G_meet (fun a w' => Mem [] w w' [[(x, .cells ⟨[.slice B c.Memory.length y, .slice C c.Copy.length z, .slice E c.Dirty.length A]⟩ 28 (0, 0))]] ∧ Sat Try.f36.ntmps [(1, .slice g k.length d), (2, iv l), (3, iv F), (4, pB x 0), (30, .bool b2)] a) ?_ ?_
 ·have hm := bs
  refine G_region (wV (.agg #[.slice B c.Memory.length y, .slice C c.Copy.length z, .slice E c.Dirty.length A]) ai (eL true 3 0 (T.blk 0 rfl)) ?_)
  obtain ⟨b4, bt, hm⟩ := gx_bind hm
  refine wC 56 #[.agg #[.slice B c.Memory.length y, .slice C c.Copy.length z, .slice E c.Dirty.length A]] ((c_s_l19Good ai c B y (W.mem0 T) C z (X.mem0 T) E A (Y.mem0 T) bt).mono ?_)
  rintro e_ w6494 ⟨rfl, a6⟩
  have P := T.call0 a6
  refine ⟨_, rfl, ?_⟩
  refine wR 2 [(1, .slice g k.length d), (2, iv l), (3, iv F), (4, pB x 0), (16, .bool (!b4))] w6494 ?_
  rcases gx_bif hm with ⟨Z, hm⟩ | ⟨Z, hm⟩
  ·refine wK 16 true Z (wR 14 [(1, .slice g k.length d), (2, iv l), (3, iv F), (4, pB x 0), (30, .bool true)] w6494 (W_nil ?_))
   obtain rfl := Option.some.inj hm
   exact N_meet fun a ha => ⟨P.pk [0], ha.s⟩
  refine wK 16 false Z (wV (.agg #[.slice B c.Memory.length y, .slice C c.Copy.length z, .slice E c.Dirty.length A]) w6494 (eL true 3 0 (P.blk 0 rfl)) (wR 1 [(1, .slice g k.length d), (2, iv l), (3, iv F), (4, pB x 0), (16, .bool false), (17, .agg #[.slice B c.Memory.length y, .slice C c.Copy.length z, .slice E c.Dirty.length A]), (18, .slice g k.length d)] w6494 ?_))
  obtain ⟨b5, bu, hm⟩ := gx_bind hm
  refine wC 77 #[.agg #[.slice B c.Memory.length y, .slice C c.Copy.length z, .slice E c.Dirty.length A], .slice g k.length d] ((c_s_l19Stores w6494 c B y (W.mem0 P) C z (X.mem0 P) E A (Y.mem0 P) k g d (au.mem0 P) bu).mono ?_)
  rintro e_ w6499 ⟨rfl, a7⟩
  have al := P.call0 a7
  refine ⟨_, rfl, ?_⟩
  refine wR 3 [(1, .slice g k.length d), (2, iv l), (3, iv F), (4, pB x 0), (22, .bool (!b5))] w6499 ?_
  rcases gx_bif hm with ⟨aa, hm⟩ | ⟨aa, hm⟩
  ·refine wK 22 true aa (wR 8 [(1, .slice g k.length d), (2, iv l), (3, iv F), (4, pB x 0), (30, .bool true)] w6499 (W_nil ?_))
   obtain rfl := Option.some.inj hm
   exact N_meet fun a ha => ⟨al.pk [0], ha.s⟩
  refine wK 22 false aa (wR 1 [(1, .slice g k.length d), (2, iv l), (3, iv F), (4, pB x 0), (22, .bool false), (23, iv l)] w6499 ?_)
  obtain ⟨b6, bv, hm⟩ := gx_bind hm
  refine wC 73 #[iv l, iv 0, iv 12] ((c_s_l1In w6499 l 0 12 bv).mono ?_)
  rintro e_ aj ⟨rfl, a8⟩
  have am := al.call0 a8
  refine ⟨_, rfl, ?_⟩
  refine wR 3 [(1, .slice g k.length d), (2, iv l), (3, iv F), (4, pB x 0), (27, .bool (!b6))] aj ?_
  rcases gx_bif hm with ⟨ab, hm⟩ | ⟨ab, hm⟩
  ·refine wK 27 true ab (wR 3 [(1, .slice g k.length d), (2, iv l), (3, iv F), (4, pB x 0), (30, .bool true)] aj (W_nil ?_))
   obtain rfl := Option.some.inj hm
   exact N_meet fun a ha => ⟨am.pk [0], ha.s⟩
  refine wK 27 false ab (wR 3 [(1, .slice g k.length d), (2, iv l), (3, iv F), (4, pB x 0), (30, .bool (decide (F < 0)))] aj (W_nil ?_))
  obtain rfl := Option.some.inj hm
  exact N_meet fun a ha => ⟨am.pk [0], ha.s⟩
 intro ck a4 ⟨an, bn⟩
 refine N_use bn ?_
 have hm := br
 refine N_then ?_
 rcases gx_bif hm with ⟨ac, hm⟩ | ⟨ac, hm⟩
 ·refine gT ac (G_seq (G_region (wR 2 [(8, iv 0), (9, .bool false)] a4 (W_nil (N_then (G_ret (N_then_ret ?_)))))))
  obtain rfl := Option.some.inj hm
  exact N_ret [iv 0, .bool false] (rC (rC RVs_nil)) (⟨rfl, an.pk []⟩)
 refine gF ac (G_skip (N_then (G_seq (G_seq (G_region (wR 1 [(1, .slice g k.length d), (2, iv l), (3, iv F), (4, pB x 0), (10, iv 0)] a4 (W_nil (N_then ?_))))))))
 obtain ⟨b3, b0, aw⟩ := gx_bind hm
 refine G_meet (fun a w' => ∃ (a3 : Unit), b3 = .inl a3 ∧ Mem [] w w' [] ∧ Sat Try.f36.ntmps [] a) ?_ ?_
 ·refine G_block (G_while (σ := Int) (ρ := (Unit) ⊕ (Int × Bool)) (fun H a w' => Mem [] w w' [[(x, .cells ⟨[.slice B c.Memory.length y, .slice C c.Copy.length z, .slice E c.Dirty.length A]⟩ 28 (0, 0))]] ∧ Sat Try.f36.ntmps [(1, .slice g k.length d), (2, iv l), (3, iv F), (4, pB x 0), (10, iv H)] a) b0 (fun a ha => ⟨an.pk [0], ha.s⟩) ?_)
  clear hm
  intro H cv hm ax cl b9 ⟨ao, bo⟩
  refine G_use bo (G_seq (G_seq (G_region (wR 4 [(1, .slice g k.length d), (2, iv l), (3, iv F), (4, pB x 0), (10, iv H), (34, .bool (decide (H ≤ (k.length : Int))))] b9 (W_nil (N_then ?_))))))
  rcases gx_bif hm with ⟨ad, hm⟩ | ⟨ad, hm⟩
  ·refine gT ad (G_skip (N_then (G_seq (G_block (G_seq ?_)))))
   obtain ⟨S, b1, hm⟩ := gx_bind hm
   obtain ⟨cw, a0, ay, bq⟩ := id au
   obtain ⟨b8, az, av, bz⟩ := gxSlice_fst a0 b1
   obtain ⟨b, bw, hm⟩ := gx_bind hm
   refine G_sub [(1, .slice g k.length d), (2, iv l), (3, iv F), (4, pB x 0), (10, iv H), (34, .bool (decide (H ≤ (k.length : Int))))] (by kernel_rfl) (G_dagL 11 [[], [], [], [1, 2], [], [0, 3, 4], [], [6], [6], [], [7, 9]] [[], [], [], [], [], [], [], [], [], [], [9]] [[], [], [], [], [], [], [], [], [], [], []] [[], [], [], [], [], [], [5], [5], [5], [], [5]] [[], [], [], [], [], [], [5], [5], [], [], [5, 9]] [[], [], [], [], [], [], [], [], [], [], []] (fun _ => []) (fun i => ([fun f v s => v = (.agg #[.slice B c.Memory.length y, .slice C c.Copy.length z, .slice E c.Dirty.length A] : Value) ∧ s = [], fun f v s => v = (.slice g k.length d : Value) ∧ s = [], fun f v s => v = (iv H : Value) ∧ s = [], fun f v s => v = (.slice (subP g (0 : Int).toNat d 1) S.length (d - (0 : Int).toNat) : Value) ∧ s = [], fun f v s => v = (iv l : Value) ∧ s = [], fun f v s => ∃ (q : Option Addr) (m : Nat) (K : Seg), ∃ (t : Option Addr) (n : Nat) (L : Seg), ∃ (u : Option Addr) (o : Nat) (N : Seg), v = (.tuple #[.agg #[.slice q b.1.Memory.length m, .slice t b.1.Copy.length n, .slice u b.1.Dirty.length o], iv b.2] : Value) ∧ s = (K ++ (L ++ N)) ∧ ownS Gx.encI b.1.Memory q m K ∧ ownS Gx.encI b.1.Copy t n L ∧ ownS Gx.encB b.1.Dirty u o N, fun f v s => v = (.tuple #[.agg #[(atPath (f 5) [0, 0]), (atPath (f 5) [0, 1]), (atPath (f 5) [0, 2])], iv b.2] : Value) ∧ s = [], fun f v s => v = (.agg #[(atPath (f 5) [0, 0]), (atPath (f 5) [0, 1]), (atPath (f 5) [0, 2])] : Value) ∧ s = [], fun f v s => v = (iv b.2 : Value) ∧ s = [], fun f v s => ∃ (G : Nat), v = (pB G 0 : Value) ∧ s = [(G, .cells ⟨[.slice none 0 0, .slice none 0 0, .slice none 0 0]⟩ 28 (0, 0))], fun f v s => v = undef ∧ s = [((blkOf (f 9)), .cells ⟨[(atPath (f 5) [0, 0]), (atPath (f 5) [0, 1]), (atPath (f 5) [0, 2])]⟩ 28 (0, 0))]] : List ((Nat → Value) → Value → Seg → Prop)).getD i (fun _ _ _ => False)) (fun j f v => ∃ s, (fun i => ([fun f v s => v = (.agg #[.slice B c.Memory.length y, .slice C c.Copy.length z, .slice E c.Dirty.length A] : Value) ∧ s = [], fun f v s => v = (.slice g k.length d : Value) ∧ s = [], fun f v s => v = (iv H : Value) ∧ s = [], fun f v s => v = (.slice (subP g (0 : Int).toNat d 1) S.length (d - (0 : Int).toNat) : Value) ∧ s = [], fun f v s => v = (iv l : Value) ∧ s = [], fun f v s => ∃ (q : Option Addr) (m : Nat) (K : Seg), ∃ (t : Option Addr) (n : Nat) (L : Seg), ∃ (u : Option Addr) (o : Nat) (N : Seg), v = (.tuple #[.agg #[.slice q b.1.Memory.length m, .slice t b.1.Copy.length n, .slice u b.1.Dirty.length o], iv b.2] : Value) ∧ s = (K ++ (L ++ N)) ∧ ownS Gx.encI b.1.Memory q m K ∧ ownS Gx.encI b.1.Copy t n L ∧ ownS Gx.encB b.1.Dirty u o N, fun f v s => v = (.tuple #[.agg #[(atPath (f 5) [0, 0]), (atPath (f 5) [0, 1]), (atPath (f 5) [0, 2])], iv b.2] : Value) ∧ s = [], fun f v s => v = (.agg #[(atPath (f 5) [0, 0]), (atPath (f 5) [0, 1]), (atPath (f 5) [0, 2])] : Value) ∧ s = [], fun f v s => v = (iv b.2 : Value) ∧ s = [], fun f v s => ∃ (G : Nat), v = (pB G 0 : Value) ∧ s = [(G, .cells ⟨[.slice none 0 0, .slice none 0 0, .slice none 0 0]⟩ 28 (0, 0))], fun f v s => v = undef ∧ s = [((blkOf (f 9)), .cells ⟨[(atPath (f 5) [0, 0]), (atPath (f 5) [0, 1]), (atPath (f 5) [0, 2])]⟩ 28 (0, 0))]] : List ((Nat → Value) → Value → Seg → Prop)).getD i (fun _ _ _ => False)) j f v s) [9] [5, 8, 10] [5, 10] (fun _ _ _ s h => ⟨s, h⟩) (by kernel_rfl) (by kernel_rfl) (ao.preNil 11) (by kernel_rfl) (by kernel_rfl) (by kernel_rfl) (by kernel_rfl) (allOb_cons ?_ (allOb_cons ?_ (allOb_cons ?_ (allOb_cons ?_ (allOb_cons ?_ (allOb_cons ?_ (allOb_cons ?_ (allOb_cons ?_ (allOb_cons ?_ (allOb_cons ?_ (allOb_cons ?_ allOb_nil))))))))))) ?_)
   ·intro I J
    intro R ca ap
    exact wV (.agg #[.slice B c.Memory.length y, .slice C c.Copy.length z, .slice E c.Dirty.length A]) ca (eL true 3 0 (ap.blk 0 rfl)) (W_nil (oE (.agg #[.slice B c.Memory.length y, .slice C c.Copy.length z, .slice E c.Dirty.length A]) [] ⟨by kernel_rfl, rfl⟩ ap))
   ·intro I J
    intro R cb bb
    exact wR 1 [(39, .slice g k.length d)] cb (W_nil (oE (.slice g k.length d) [] ⟨by kernel_rfl, rfl⟩ bb))
   ·intro I J
    intro R cc bc
    exact wR 1 [(40, iv H)] cc (W_nil (oE (iv H) [] ⟨by kernel_rfl, rfl⟩ bc))
   ·intro I J
    intro v1_ hb1_
    obtain ⟨rfl, _⟩ := hb1_
    intro v2_ hb2_
    obtain ⟨rfl, _⟩ := hb2_
    intro R cd aq
    exact wV (.slice (subP g (0 : Int).toNat d 1) S.length (d - (0 : Int).toNat)) cd (E_sliceD (D := (deepL encStore)) _ _ _ _ k.length 0 H rfl (by kernel_rfl) (Or.inl ⟨rfl, rfl⟩) (Or.inr ⟨_, rfl, by kernel_rfl⟩) (by kernel_rfl) (ay.mem0 aq) (len_fst a0) av az) (W_nil (oE (.slice (subP g (0 : Int).toNat d 1) S.length (d - (0 : Int).toNat)) [] ⟨by kernel_rfl, rfl⟩ aq))
   ·intro I J
    intro R ce bd
    exact wR 1 [(42, iv l)] ce (W_nil (oE (iv l) [] ⟨by kernel_rfl, rfl⟩ bd))
   ·intro I J
    intro v0_ hb0_
    obtain ⟨rfl, _⟩ := hb0_
    intro v3_ hb3_
    obtain ⟨rfl, _⟩ := hb3_
    intro v4_ hb4_
    obtain ⟨rfl, _⟩ := hb4_
    intro R cf Q
    refine wC 78 #[.agg #[.slice B c.Memory.length y, .slice C c.Copy.length z, .slice E c.Dirty.length A], .slice (subP g (0 : Int).toNat d 1) S.length (d - (0 : Int).toNat), iv l] ((c_s_l19Run cf c B y (W.mem0 Q) C z (X.mem0 Q) E A (Y.mem0 Q) S (subP g (0 : Int).toNat d 1) (d - (0 : Int).toNat) ⟨b8, az, ((ay.mem0 Q).sliceM av), ((bq.mem0 Q).sub (bz _))⟩ l bw).mono ?_)
    rintro e_ cr ⟨q, m, K, t, n, L, u, o, N, rfl, af, ag, ah, a9⟩
    refine ⟨_, rfl, ?_⟩
    exact W_nil (oE (.tuple #[.agg #[.slice q b.1.Memory.length m, .slice t b.1.Copy.length n, .slice u b.1.Dirty.length o], iv b.2]) (K ++ (L ++ N)) ⟨q, m, K, t, n, L, u, o, N, rfl, rfl, af, ag, ah⟩ (Mem.callMid Q (a9.permF (by simp))))
   ·intro I J
    intro v5_ hb5_
    obtain ⟨_, q, m, _, t, n, _, u, o, _, rfl, _⟩ := hb5_
    intro R cg be
    exact wR 1 [(37, .tuple #[.agg #[.slice q b.1.Memory.length m, .slice t b.1.Copy.length n, .slice u b.1.Dirty.length o], iv b.2])] cg (W_nil (oE (.tuple #[.agg #[.slice q b.1.Memory.length m, .slice t b.1.Copy.length n, .slice u b.1.Dirty.length o], iv b.2]) [] ⟨by kernel_rfl, rfl⟩ be))
   ·intro I J
    intro v5_ hb5_
    obtain ⟨_, q, m, _, t, n, _, u, o, _, rfl, _⟩ := hb5_
    intro v6_ hb6_
    obtain ⟨hv6_, _⟩ := hb6_
    obtain rfl : v6_ = (.tuple #[.agg #[.slice q b.1.Memory.length m, .slice t b.1.Copy.length n, .slice u b.1.Dirty.length o], iv b.2] : Value) := hv6_.trans (by kernel_rfl)
    intro R ch bf
    exact wR 1 [(44, .agg #[.slice q b.1.Memory.length m, .slice t b.1.Copy.length n, .slice u b.1.Dirty.length o])] ch (W_nil (oE (.agg #[.slice q b.1.Memory.length m, .slice t b.1.Copy.length n, .slice u b.1.Dirty.length o]) [] ⟨by kernel_rfl, rfl⟩ bf))
   ·intro I J
    intro v5_ hb5_
    obtain ⟨_, q, m, _, t, n, _, u, o, _, rfl, _⟩ := hb5_
    intro v6_ hb6_
    obtain ⟨hv6_, _⟩ := hb6_
    obtain rfl : v6_ = (.tuple #[.agg #[.slice q b.1.Memory.length m, .slice t b.1.Copy.length n, .slice u b.1.Dirty.length o], iv b.2] : Value) := hv6_.trans (by kernel_rfl)
    intro R ci bg
    exact wR 1 [(45, iv b.2)] ci (W_nil (oE (iv b.2) [] ⟨by kernel_rfl, rfl⟩ bg))
   ·intro I J
    intro R cs bh
    refine wN (.cells ⟨[.slice none 0 0, .slice none 0 0, .slice none 0 0]⟩ 28 (0, 0)) bh ?_
    intro G ct bi
    exact W_nil (oE (pB G 0) [(G, .cells ⟨[.slice none 0 0, .slice none 0 0, .slice none 0 0]⟩ 28 (0, 0))] ⟨G, rfl, rfl⟩ (Mem.mid bi))
   ·intro I J
    intro v5_ hb5_
    obtain ⟨_, q, m, _, t, n, _, u, o, _, rfl, _⟩ := hb5_
    intro v7_ hb7_
    obtain ⟨hv7_, _⟩ := hb7_
    obtain rfl : v7_ = (.agg #[.slice q b.1.Memory.length m, .slice t b.1.Copy.length n, .slice u b.1.Dirty.length o] : Value) := hv7_.trans (by kernel_rfl)
    intro v9_ hb9_
    obtain ⟨G, rfl, hs9_⟩ := hb9_
    intro R a5 bj
    have V : Mem [] w a5 ([[(x, .cells ⟨[.slice B c.Memory.length y, .slice C c.Copy.length z, .slice E c.Dirty.length A]⟩ 28 (0, 0))]] ++ ([[]] ++ ([(I 9)] ++ ([] ++ R)))) := bj
    rw [hs9_] at V
    replace V : Mem [] w a5 ([[(x, .cells ⟨[.slice B c.Memory.length y, .slice C c.Copy.length z, .slice E c.Dirty.length A]⟩ 28 (0, 0))]] ++ ([[]] ++ ([[(G, .cells ⟨[.slice none 0 0, .slice none 0 0, .slice none 0 0]⟩ 28 (0, 0))]] ++ ([] ++ R)))) := V.permF (by simp)
    refine wS true 3 0 (.agg #[.slice q b.1.Memory.length m, .slice t b.1.Copy.length n, .slice u b.1.Dirty.length o]) 2 [.slice q b.1.Memory.length m, .slice t b.1.Copy.length n, .slice u b.1.Dirty.length o] V rfl ?_
    intro cu bk
    exact W_nil (ob_none [(G, .cells ⟨[.slice q b.1.Memory.length m, .slice t b.1.Copy.length n, .slice u b.1.Dirty.length o]⟩ 28 (0, 0))] rfl ⟨rfl, by kernel_rfl⟩ (Mem.takeOver bk))
   intro I J
   intro v9_ hb9_
   obtain ⟨_, G, rfl, hs9_⟩ := hb9_
   intro v5_ hb5_
   obtain ⟨q, m, K, t, n, L, u, o, N, rfl, hs5_, af, ag, ah⟩ := hb5_
   intro v8_ hb8_
   obtain ⟨rfl, _⟩ := hb8_
   intro v10_ hb10_
   obtain ⟨rfl, hs10_⟩ := hb10_
   replace hs10_ := hs10_.trans (show _ = [(G, .cells ⟨[.slice q b.1.Memory.length m, .slice t b.1.Copy.length n, .slice u b.1.Dirty.length o]⟩ 28 (0, 0))] by kernel_rfl)
   intro U bl
   have O : Mem [] w U [[(x, .cells ⟨[.slice B c.Memory.length y, .slice C c.Copy.length z, .slice E c.Dirty.length A]⟩ 28 (0, 0))], (I 5), (I 10)] := bl
   rw [hs5_] at O
   rw [hs10_] at O
   replace O : Mem [] w U [[(x, .cells ⟨[.slice B c.Memory.length y, .slice C c.Copy.length z, .slice E c.Dirty.length A]⟩ 28 (0, 0))], K, L, N, [(G, .cells ⟨[.slice q b.1.Memory.length m, .slice t b.1.Copy.length n, .slice u b.1.Dirty.length o]⟩ 28 (0, 0))]] := O.permF (by simp)
   refine wR 1 [(1, .slice g k.length d), (2, iv l), (3, iv F), (4, pB x 0), (10, iv H), (11, pB G 0)] U (W_nil (N_then (G_seq (G_region (wV (.agg #[.slice q b.1.Memory.length m, .slice t b.1.Copy.length n, .slice u b.1.Dirty.length o]) U (eL true 3 0 (O.blk 4 rfl)) ?_)))))
   obtain ⟨b7, bx, hm⟩ := gx_bind hm
   refine wC 65 #[.agg #[.slice q b.1.Memory.length m, .slice t b.1.Copy.length n, .slice u b.1.Dirty.length o]] ((c_s_l19Dirty U b.1 q m (af.rd O 1 (by kernel_rfl)) t n (ag.rd O 2 (by kernel_rfl)) u o (ah.rd O 3 (by kernel_rfl)) bx).mono ?_)
   rintro e_ ak ⟨cp, cn, cq, rfl, co, ba⟩
   have ar := O.call ba
   refine ⟨_, rfl, ?_⟩
   refine wR 3 [(1, .slice g k.length d), (2, iv l), (3, iv F), (4, pB x 0), (10, iv H), (50, .bool (decide ((b7.length : Int) ≤ F)))] ak (W_nil (N_then ?_))
   rcases gx_bif hm with ⟨ae, hm⟩ | ⟨ae, hm⟩
   ·refine gT ae (G_seq (G_region (wR 3 [(8, iv H), (9, .bool true)] ak (W_nil (N_then (G_ret (N_block_ret (N_then_ret (N_then_ret ?_)))))))))
    obtain rfl := Option.some.inj hm
    obtain rfl := ax _ rfl
    have hm := aw; simp only [Sum.elim_inr] at hm
    refine N_block_ret (N_meet_ret (N_then_ret ?_))
    obtain rfl := Option.some.inj hm
    exact N_ret [iv H, .bool true] (rC (rC RVs_nil)) (⟨rfl, ar.pk []⟩)
   refine gF ae (G_skip (N_block (N_then (G_region (wR 3 [(1, .slice g k.length d), (2, iv l), (3, iv F), (4, pB x 0), (10, iv (w64 (H + 1)))] ak (W_nil ?_))))))
   obtain rfl := Option.some.inj hm
   exact N_loop fun a ha => ⟨_, rfl, ar.pk [0], ha.s⟩
  refine gF ad (G_exit (N_then_exit (N_then_exit (N_block_eq ?_))))
  obtain rfl := Option.some.inj hm
  obtain rfl := ax _ rfl
  exact N_meet fun a ha => ⟨_, rfl, ao.pk [], ha.s⟩
 intro cm cj ⟨a3, hout_, bm, bp⟩
 refine N_use bp ?_
 subst hout_
 have hm := aw; simp only [Sum.elim_inl] at hm
 refine N_then (G_seq (G_region (wR 2 [(8, iv 0), (9, .bool false)] cj (W_nil (N_then (G_ret ?_))))))
 obtain rfl := Option.some.inj hm
 exact N_ret [iv 0, .bool false] (rC (rC RVs_nil)) (⟨rfl, bm.pk []⟩)
theorem c_i_areRounds_1_1 (w : World) (b : Store) (a : Copying) (h : Option Addr) (d : Nat) (t : rdS Gx.encI w a.Memory h d) (i : Option Addr) (f : Nat) (u : rdS Gx.encI w a.Copy i f) (j : Option Addr) (g : Nat) (v : rdS Gx.encB w a.Dirty j g) (l : Nat) (x : w.heap[l]? = some (.cells ⟨[.slice h a.Memory.length d, .slice i a.Copy.length f, .slice j a.Dirty.length g]⟩ 28 (0, 0))) {r : Bool} (hm : M.i_areRounds_1_1 b a = some r) :
  Calls Try.prog 100 #[.agg #[iv b.Word, iv b.Value], pB l 0] w fun e w' => e = .returned (.bool r) ∧ Mem [] w w' [] := by
 unfold M.i_areRounds_1_1 at hm
 refine cE Try.func100 ?_
 have M0 := Mem.refl [] w
 refine G_seq (G_region (wN (.cells ⟨[iv b.Word, iv b.Value]⟩ 46 (0, 0)) M0 ?_))
 intro q k c
 refine wR 1 [(1, pB l 0), (2, pB q 0)] k (W_nil (N_then (G_seq (G_region (wV (.agg #[.slice h a.Memory.length d, .slice i a.Copy.length f, .slice j a.Dirty.length g]) k (eL true 3 0 (c.ro x)) (wV (.agg #[iv b.Word, iv b.Value]) k (eL true 2 0 (c.blk 0 rfl)) ?_))))))
 obtain ⟨m, y, hm⟩ := gx_bind hm
 refine wC 70 #[.agg #[.slice h a.Memory.length d, .slice i a.Copy.length f, .slice j a.Dirty.length g], .agg #[iv b.Word, iv b.Value]] ((c_i_isStore k a h d (t.mem0 c) i f (u.mem0 c) j g (v.mem0 c) b y).mono ?_)
 rintro e_ z ⟨rfl, n⟩
 have o := c.call0 n
 refine ⟨_, rfl, ?_⟩
 refine wR 2 [(3, .bool (!m))] z (W_nil (N_then (G_ret ?_)))
 obtain rfl := Option.some.inj hm
 exact N_ret [.bool (!m)] (rC RVs_nil) (⟨rfl, o.pk []⟩)
theorem c_slices_IndexFunc_107__i_areRounds_1_1 (w : World) (b : List Store) (f : Option Addr) (g : Nat) (y : rdS encStore w b f g) (i : Copying) (t : Option Addr) (l : Nat) (G : rdS Gx.encI w i.Memory t l) (u : Option Addr) (m : Nat) (H : rdS Gx.encI w i.Copy u m) (v : Option Addr) (n : Nat) (I : rdS Gx.encB w i.Dirty v n) (d : Nat) (L : w.heap[d]? = some (.cells ⟨[.slice t i.Memory.length l, .slice u i.Copy.length m, .slice v i.Dirty.length n]⟩ 28 (0, 0))) {r : Int} (hm : M.slices_IndexFunc_107__i_areRounds_1_1 b i = some r) :
  Calls Try.prog 107 #[.slice f b.length g, .func (.func 100) #[] #[pB d 0]] w fun e w' => e = .returned (iv r) ∧ Mem [] w w' [] := by
 unfold M.slices_IndexFunc_107__i_areRounds_1_1 at hm
 refine cE Try.func107 ?_
 have M0 := Mem.refl [] w
 refine G_seq (G_region (wR 1 [(0, .slice f b.length g), (1, .func (.func 100) #[] #[pB d 0])] w (W_nil (N_then (G_seq (G_seq (G_region (wR 3 [(0, .slice f b.length g), (1, .func (.func 100) #[] #[pB d 0]), (7, iv (b.length : Int)), (8, iv 0)] w (W_nil (N_then ?_))))))))))
 obtain ⟨P, O, z⟩ := gx_bind hm
 refine G_meet (fun a w' => ∃ (C : Unit), P = .inl C ∧ Mem [] w w' [] ∧ Sat Try.f107.ntmps [] a) ?_ ?_
 ·refine G_block (G_while (σ := Int) (ρ := (Unit) ⊕ (Int)) (fun c a w' => Mem [] w w' [] ∧ Sat Try.f107.ntmps [(0, .slice f b.length g), (1, .func (.func 100) #[] #[pB d 0]), (7, iv (b.length : Int)), (8, iv c)] a) O (fun a ha => ⟨M0.pk [], ha.s⟩) ?_)
  clear hm
  intro c U hm A R j ⟨h, J⟩
  refine G_use J (G_seq (G_region (wR 1 [(0, .slice f b.length g), (1, .func (.func 100) #[] #[pB d 0]), (7, iv (b.length : Int)), (8, iv c), (9, .bool (decide (c < (b.length : Int))))] j (W_nil (N_then (G_seq ?_))))))
  rcases gx_bif hm with ⟨o, hm⟩ | ⟨o, hm⟩
  ·refine gT o (G_skip (N_then (G_seq (G_block (G_seq (G_region (wR 2 [(0, .slice f b.length g), (1, .func (.func 100) #[] #[pB d 0]), (5, iv c), (7, iv (b.length : Int)), (8, iv c)] j (W_nil (N_then (G_seq (G_region (wR 3 [(0, .slice f b.length g), (1, .func (.func 100) #[] #[pB d 0]), (5, iv c), (7, iv (b.length : Int)), (8, iv c), (11, .func (.func 100) #[] #[pB d 0]), (12, .slice f b.length g), (13, iv c)] j ?_))))))))))))
   obtain ⟨k, B, hm⟩ := gx_bind hm
   refine wV (elemP f (c.toNat * 2)) j (eI (y.mem0 h) rfl B) (wV (.agg #[iv k.Word, iv k.Value]) j (eE true 2 0 (c.toNat * 2) (y.mem0 h) B) ?_)
   obtain ⟨T, N, hm⟩ := gx_bind hm
   refine wC 100 #[.agg #[iv k.Word, iv k.Value], pB d 0] ((c_i_areRounds_1_1 j k i t l (G.mem0 h) u m (H.mem0 h) v n (I.mem0 h) d (h.ro L) N).mono ?_)
   rintro e_ D ⟨rfl, E⟩
   have x := h.call0 E
   refine ⟨_, rfl, ?_⟩
   refine W_nil (N_then ?_)
   rcases gx_bif hm with ⟨q, hm⟩ | ⟨q, hm⟩
   ·refine gT q (G_seq (G_region (wR 2 [(4, iv c)] D (W_nil (N_then (G_ret (N_block_ret (N_then_ret (N_then_ret ?_)))))))))
    obtain rfl := Option.some.inj hm
    obtain rfl := A _ rfl
    have hm := z; simp only [Sum.elim_inr] at hm
    refine N_block_ret (N_meet_ret (N_then_ret ?_))
    obtain rfl := Option.some.inj hm
    exact N_ret [iv c] (rC RVs_nil) (⟨rfl, x.pk []⟩)
   refine gF q (G_skip (N_block (N_then (G_region (wR 2 [(0, .slice f b.length g), (1, .func (.func 100) #[] #[pB d 0]), (7, iv (b.length : Int)), (8, iv (w64 (c + 1)))] D (W_nil ?_))))))
   obtain rfl := Option.some.inj hm
   exact N_loop fun a ha => ⟨_, rfl, x.pk [], ha.s⟩
  refine gF o (G_exit (N_then_exit (N_then_exit (N_block_eq ?_))))
  obtain rfl := Option.some.inj hm
  obtain rfl := A _ rfl
  exact N_meet fun a ha => ⟨_, rfl, h.pk [], ha.s⟩
 intro S Q ⟨C, hout_, F, K⟩
 refine N_use K ?_
 subst hout_
 have hm := z; simp only [Sum.elim_inl] at hm
 refine N_then (G_seq (G_region (wR 1 [(4, iv (-1))] Q (W_nil (N_then (G_ret ?_))))))
 obtain rfl := Option.some.inj hm
 exact N_ret [iv (-1)] (rC RVs_nil) (⟨rfl, F.pk []⟩)
theorem c_slices_ContainsFunc_99__i_areRounds_1_1 (w : World) (b : List Store) (f : Option Addr) (d : Nat) (q : rdS encStore w b f d) (a : Copying) (j : Option Addr) (g : Nat) (t : rdS Gx.encI w a.Memory j g) (k : Option Addr) (h : Nat) (u : rdS Gx.encI w a.Copy k h) (l : Option Addr) (i : Nat) (v : rdS Gx.encB w a.Dirty l i) (c : Nat) (x : w.heap[c]? = some (.cells ⟨[.slice j a.Memory.length g, .slice k a.Copy.length h, .slice l a.Dirty.length i]⟩ 28 (0, 0))) {r : Bool} (hm : M.slices_ContainsFunc_99__i_areRounds_1_1 b a = some r) :
  Calls Try.prog 99 #[.slice f b.length d, .func (.func 100) #[] #[pB c 0]] w fun e w' => e = .returned (.bool r) ∧ Mem [] w w' [] := by
 unfold M.slices_ContainsFunc_99__i_areRounds_1_1 at hm
 refine cE Try.func99 ?_
 have M0 := Mem.refl [] w
 refine G_seq (G_region (wR 1 [(0, .slice f b.length d), (1, .func (.func 100) #[] #[pB c 0])] w (W_nil (N_then (G_seq (G_region (wR 2 [(5, .slice f b.length d), (6, .func (.func 100) #[] #[pB c 0])] w ?_)))))))
 obtain ⟨m, y, hm⟩ := gx_bind hm
 refine wC 107 #[.slice f b.length d, .func (.func 100) #[] #[pB c 0]] ((c_slices_IndexFunc_107__i_areRounds_1_1 w b f d (q.mem0 M0) a j g (t.mem0 M0) k h (u.mem0 M0) l i (v.mem0 M0) c (M0.ro x) y).mono ?_)
 rintro e_ z ⟨rfl, n⟩
 have o := M0.call0 n
 refine ⟨_, rfl, ?_⟩
 refine wR 2 [(4, .bool (decide (m ≥ 0)))] z (W_nil (N_then (G_ret ?_)))
 obtain rfl := Option.some.inj hm
 exact N_ret [.bool (decide (m ≥ 0))] (rC RVs_nil) (⟨rfl, o.pk []⟩)
theorem c_i_areRounds_1 (w : World) (b : List Store) (g : Option Addr) (f : Nat) (v : rdS encStore w b g f) (c : Copying) (l : Option Addr) (h : Nat) (x : rdS Gx.encI w c.Memory l h) (m : Option Addr) (i : Nat) (y : rdS Gx.encI w c.Copy m i) (n : Option Addr) (j : Nat) (z : rdS Gx.encB w c.Dirty n j) (d : Nat) (B : w.heap[d]? = some (.cells ⟨[.slice l c.Memory.length h, .slice m c.Copy.length i, .slice n c.Dirty.length j]⟩ 28 (0, 0))) {r : Bool} (hm : M.i_areRounds_1 b c = some r) :
  Calls Try.prog 98 #[.slice g b.length f, pB d 0] w fun e w' => e = .returned (.bool r) ∧ Mem [] w w' [] := by
 unfold M.i_areRounds_1 at hm
 refine cE Try.func98 ?_
 have M0 := Mem.refl [] w
 refine G_seq (G_region (wR 1 [(0, .slice g b.length f), (1, pB d 0)] w (W_nil (N_then (G_seq ?_)))))
 obtain ⟨o, D, C⟩ := gx_bind hm
 refine G_meet (fun a w' => Mem [] w w' [] ∧ Sat Try.f98.ntmps [(3, .bool o)] a) ?_ ?_
 ·have hm := D
  refine G_region (wR 4 [(0, .slice g b.length f), (1, pB d 0), (7, .bool (decide ((b.length : Int) > 12)))] w ?_)
  rcases gx_bif hm with ⟨k, hm⟩ | ⟨k, hm⟩
  ·refine wK 7 true k (wR 5 [(3, .bool true)] w (W_nil ?_))
   obtain rfl := Option.some.inj hm
   exact N_meet fun a ha => ⟨M0.pk [], ha.s⟩
  refine wK 7 false k (wR 2 [(7, .bool false), (8, .slice g b.length f), (9, .func (.func 100) #[] #[pB d 0])] w ?_)
  obtain ⟨F, E, hm⟩ := gx_bind hm
  refine wC 99 #[.slice g b.length f, .func (.func 100) #[] #[pB d 0]] ((c_slices_ContainsFunc_99__i_areRounds_1_1 w b g f (v.mem0 M0) c l h (x.mem0 M0) m i (y.mem0 M0) n j (z.mem0 M0) d (M0.ro B) E).mono ?_)
  rintro e_ G ⟨rfl, q⟩
  have t := M0.call0 q
  refine ⟨_, rfl, ?_⟩
  refine wR 2 [(3, .bool F)] G (W_nil ?_)
  obtain rfl := Option.some.inj hm
  exact N_meet fun a ha => ⟨t.pk [], ha.s⟩
 intro H I ⟨u, A⟩
 refine N_use A ?_
 have hm := C
 refine N_then (G_ret ?_)
 obtain rfl := Option.some.inj hm
 exact N_ret [.bool o] (rC RVs_nil) (⟨rfl, u.pk []⟩)
theorem c_slices_IndexFunc_106__i_areRounds_1 (w : World) (b : List (List Store)) (f : Option Addr) (g : Nat) (I : rdD (deepL encStore) w b f g) (j : Copying) (v : Option Addr) (m : Nat) (J : rdS Gx.encI w j.Memory v m) (x : Option Addr) (n : Nat) (K : rdS Gx.encI w j.Copy x n) (y : Option Addr) (o : Nat) (L : rdS Gx.encB w j.Dirty y o) (d : Nat) (P : w.heap[d]? = some (.cells ⟨[.slice v j.Memory.length m, .slice x j.Copy.length n, .slice y j.Dirty.length o]⟩ 28 (0, 0))) {r : Int} (hm : M.slices_IndexFunc_106__i_areRounds_1 b j = some r) :
  Calls Try.prog 106 #[.slice f b.length g, .func (.func 98) #[] #[pB d 0]] w fun e w' => e = .returned (iv r) ∧ Mem [] w w' [] := by
 unfold M.slices_IndexFunc_106__i_areRounds_1 at hm
 refine cE Try.func106 ?_
 have M0 := Mem.refl [] w
 refine G_seq (G_region (wR 1 [(0, .slice f b.length g), (1, .func (.func 98) #[] #[pB d 0])] w (W_nil (N_then (G_seq (G_seq (G_region (wR 3 [(0, .slice f b.length g), (1, .func (.func 98) #[] #[pB d 0]), (7, iv (b.length : Int)), (8, iv 0)] w (W_nil (N_then ?_))))))))))
 obtain ⟨U, S, A⟩ := gx_bind hm
 refine G_meet (fun a w' => ∃ (E : Unit), U = .inl E ∧ Mem [] w w' [] ∧ Sat Try.f106.ntmps [] a) ?_ ?_
 ·refine G_block (G_while (σ := Int) (ρ := (Unit) ⊕ (Int)) (fun c a w' => Mem [] w w' [] ∧ Sat Try.f106.ntmps [(0, .slice f b.length g), (1, .func (.func 98) #[] #[pB d 0]), (7, iv (b.length : Int)), (8, iv c)] a) S (fun a ha => ⟨M0.pk [], ha.s⟩) ?_)
  clear hm
  intro c Z hm B W k ⟨h, N⟩
  refine G_use N (G_seq (G_region (wR 1 [(0, .slice f b.length g), (1, .func (.func 98) #[] #[pB d 0]), (7, iv (b.length : Int)), (8, iv c), (9, .bool (decide (c < (b.length : Int))))] k (W_nil (N_then (G_seq ?_))))))
  rcases gx_bif hm with ⟨q, hm⟩ | ⟨q, hm⟩
  ·refine gT q (G_skip (N_then (G_seq (G_block (G_seq (G_region (wR 2 [(0, .slice f b.length g), (1, .func (.func 98) #[] #[pB d 0]), (5, iv c), (7, iv (b.length : Int)), (8, iv c)] k (W_nil (N_then (G_seq (G_region (wR 3 [(0, .slice f b.length g), (1, .func (.func 98) #[] #[pB d 0]), (5, iv c), (7, iv (b.length : Int)), (8, iv c), (11, .func (.func 98) #[] #[pB d 0]), (12, .slice f b.length g), (13, iv c)] k ?_))))))))))))
   obtain ⟨l, T, hm⟩ := gx_bind hm
   obtain ⟨aa, D, C, Q⟩ := id I
   obtain ⟨i, u⟩ := gxIdx_fst D T
   refine wV (elemP f (c.toNat * 1)) k (eI (C.mem0 h) (len_fst D) u) (wV (.slice ((i 0).1) l.length ((i 0).2)) k (eE false 1 0 (c.toNat * 1) (C.mem0 h) u) ?_)
   obtain ⟨Y, R, hm⟩ := gx_bind hm
   refine wC 98 #[.slice ((i 0).1) l.length ((i 0).2), pB d 0] ((c_i_areRounds_1 k l ((i 0).1) ((i 0).2) ((Q.mem0 h).at_ u 0 ⟨Store, encStore, l, (i 0).1, (i 0).2⟩ (by kernel_rfl)) j v m (J.mem0 h) x n (K.mem0 h) y o (L.mem0 h) d (h.ro P) R).mono ?_)
   rintro e_ F ⟨rfl, G⟩
   have z := h.call0 G
   refine ⟨_, rfl, ?_⟩
   refine W_nil (N_then ?_)
   rcases gx_bif hm with ⟨t, hm⟩ | ⟨t, hm⟩
   ·refine gT t (G_seq (G_region (wR 2 [(4, iv c)] F (W_nil (N_then (G_ret (N_block_ret (N_then_ret (N_then_ret ?_)))))))))
    obtain rfl := Option.some.inj hm
    obtain rfl := B _ rfl
    have hm := A; simp only [Sum.elim_inr] at hm
    refine N_block_ret (N_meet_ret (N_then_ret ?_))
    obtain rfl := Option.some.inj hm
    exact N_ret [iv c] (rC RVs_nil) (⟨rfl, z.pk []⟩)
   refine gF t (G_skip (N_block (N_then (G_region (wR 2 [(0, .slice f b.length g), (1, .func (.func 98) #[] #[pB d 0]), (7, iv (b.length : Int)), (8, iv (w64 (c + 1)))] F (W_nil ?_))))))
   obtain rfl := Option.some.inj hm
   exact N_loop fun a ha => ⟨_, rfl, z.pk [], ha.s⟩
  refine gF q (G_exit (N_then_exit (N_then_exit (N_block_eq ?_))))
  obtain rfl := Option.some.inj hm
  obtain rfl := B _ rfl
  exact N_meet fun a ha => ⟨_, rfl, h.pk [], ha.s⟩
 intro X V ⟨E, hout_, H, O⟩
 refine N_use O ?_
 subst hout_
 have hm := A; simp only [Sum.elim_inl] at hm
 refine N_then (G_seq (G_region (wR 1 [(4, iv (-1))] V (W_nil (N_then (G_ret ?_))))))
 obtain rfl := Option.some.inj hm
 exact N_ret [iv (-1)] (rC RVs_nil) (⟨rfl, H.pk []⟩)
theorem c_slices_ContainsFunc_97__i_areRounds_1 (w : World) (b : List (List Store)) (f : Option Addr) (d : Nat) (q : rdD (deepL encStore) w b f d) (a : Copying) (j : Option Addr) (g : Nat) (t : rdS Gx.encI w a.Memory j g) (k : Option Addr) (h : Nat) (u : rdS Gx.encI w a.Copy k h) (l : Option Addr) (i : Nat) (v : rdS Gx.encB w a.Dirty l i) (c : Nat) (x : w.heap[c]? = some (.cells ⟨[.slice j a.Memory.length g, .slice k a.Copy.length h, .slice l a.Dirty.length i]⟩ 28 (0, 0))) {r : Bool} (hm : M.slices_ContainsFunc_97__i_areRounds_1 b a = some r) :
  Calls Try.prog 97 #[.slice f b.length d, .func (.func 98) #[] #[pB c 0]] w fun e w' => e = .returned (.bool r) ∧ Mem [] w w' [] := by
 unfold M.slices_ContainsFunc_97__i_areRounds_1 at hm
 refine cE Try.func97 ?_
 have M0 := Mem.refl [] w
 refine G_seq (G_region (wR 1 [(0, .slice f b.length d), (1, .func (.func 98) #[] #[pB c 0])] w (W_nil (N_then (G_seq (G_region (wR 2 [(5, .slice f b.length d), (6, .func (.func 98) #[] #[pB c 0])] w ?_)))))))
 obtain ⟨m, y, hm⟩ := gx_bind hm
 refine wC 106 #[.slice f b.length d, .func (.func 98) #[] #[pB c 0]] ((c_slices_IndexFunc_106__i_areRounds_1 w b f d (q.mem0 M0) a j g (t.mem0 M0) k h (u.mem0 M0) l i (v.mem0 M0) c (M0.ro x) y).mono ?_)
 rintro e_ z ⟨rfl, n⟩
 have o := M0.call0 n
 refine ⟨_, rfl, ?_⟩
 refine wR 2 [(4, .bool (decide (m ≥ 0)))] z (W_nil (N_then (G_ret ?_)))
 obtain rfl := Option.some.inj hm
 exact N_ret [.bool (decide (m ≥ 0))] (rC RVs_nil) (⟨rfl, o.pk []⟩)
theorem c_i_areRounds (w : World) (c : Copying) (l : Option Addr) (i : Nat) (D : rdS Gx.encI w c.Memory l i) (m : Option Addr) (j : Nat) (E : rdS Gx.encI w c.Copy m j) (n : Option Addr) (k : Nat) (F : rdS Gx.encB w c.Dirty n k) (d : List (List Store)) (g : Option Addr) (f : Nat) (N : rdD (deepL encStore) w d g f) (q : Int) {r : Bool} (hm : M.i_areRounds c d q = some r) :
  Calls Try.prog 80 #[.agg #[.slice l c.Memory.length i, .slice m c.Copy.length j, .slice n c.Dirty.length k], .slice g d.length f, iv q] w fun e w' => e = .returned (.bool r) ∧ Mem [] w w' [] := by
 unfold M.i_areRounds at hm
 refine cE Try.func80 ?_
 have M0 := Mem.refl [] w
 refine G_seq (G_region (wN (.cells ⟨[.slice l c.Memory.length i, .slice m c.Copy.length j, .slice n c.Dirty.length k]⟩ 28 (0, 0)) M0 ?_))
 intro h C v
 refine wR 1 [(1, .slice g d.length f), (2, iv q), (3, pB h 0)] C (W_nil (N_then (G_seq ?_)))
 obtain ⟨G, Q, P⟩ := gx_bind hm
 refine G_meet (fun a w' => Mem [] w w' [] ∧ Sat Try.f80.ntmps [(6, .bool G)] a) ?_ ?_
 ·have hm := Q
  refine G_region (wV (.agg #[.slice l c.Memory.length i, .slice m c.Copy.length j, .slice n c.Dirty.length k]) C (eL true 3 0 (v.blk 0 rfl)) ?_)
  obtain ⟨U, R, hm⟩ := gx_bind hm
  refine wC 16 #[.agg #[.slice l c.Memory.length i, .slice m c.Copy.length j, .slice n c.Dirty.length k]] ((c_i_IsCopying C c l i (D.mem0 v) m j (E.mem0 v) n k (F.mem0 v) R).mono ?_)
  rintro e_ u ⟨rfl, H⟩
  have y := v.call0 H
  refine ⟨_, rfl, ?_⟩
  refine wR 1 [(1, .slice g d.length f), (2, iv q), (3, pB h 0), (9, .bool U)] u ?_
  rcases gx_bif hm with ⟨z, hm⟩ | ⟨z, hm⟩
  ·refine wK 9 true z (wR 5 [(1, .slice g d.length f), (2, iv q), (3, pB h 0), (14, .bool (decide ((d.length : Int) ≤ 8)))] u ?_)
   rcases gx_bif hm with ⟨A, hm⟩ | ⟨A, hm⟩
   ·refine wK 14 true A (wR 1 [(1, .slice g d.length f), (3, pB h 0), (14, .bool true), (15, iv q)] u ?_)
    obtain ⟨V, S, hm⟩ := gx_bind hm
    refine wC 74 #[iv q, iv 0, iv 12] ((c_i_inside u q 0 12 S).mono ?_)
    rintro e_ x ⟨rfl, I⟩
    have t := y.call0 I
    refine ⟨_, rfl, ?_⟩
    refine wR 2 [(1, .slice g d.length f), (3, pB h 0), (18, .bool V)] x ?_
    rcases gx_bif hm with ⟨B, hm⟩ | ⟨B, hm⟩
    ·refine wK 18 true B (wR 2 [(18, .bool true), (19, .slice g d.length f), (20, .func (.func 98) #[] #[pB h 0])] x ?_)
     obtain ⟨W, T, hm⟩ := gx_bind hm
     refine wC 97 #[.slice g d.length f, .func (.func 98) #[] #[pB h 0]] ((c_slices_ContainsFunc_97__i_areRounds_1 x d g f (N.mem0 t) c l i (D.mem0 t) m j (E.mem0 t) n k (F.mem0 t) h (t.blk 0 (b := h) (o := .cells ⟨[.slice l c.Memory.length i, .slice m c.Copy.length j, .slice n c.Dirty.length k]⟩ 28 (0, 0)) (by kernel_rfl)) T).mono ?_)
     rintro e_ X ⟨rfl, J⟩
     have K := t.call0 J
     refine ⟨_, rfl, ?_⟩
     refine wR 3 [(6, .bool (!W))] X (W_nil ?_)
     obtain rfl := Option.some.inj hm
     exact N_meet fun a ha => ⟨K.pk [], ha.s⟩
    refine wK 18 false B (wR 6 [(6, .bool false)] x (W_nil ?_))
    obtain rfl := Option.some.inj hm
    exact N_meet fun a ha => ⟨t.pk [], ha.s⟩
   refine wK 14 false A (wR 10 [(6, .bool false)] u (W_nil ?_))
   obtain rfl := Option.some.inj hm
   exact N_meet fun a ha => ⟨y.pk [], ha.s⟩
  refine wK 9 false z (wR 15 [(6, .bool false)] u (W_nil ?_))
  obtain rfl := Option.some.inj hm
  exact N_meet fun a ha => ⟨y.pk [], ha.s⟩
 intro Y Z ⟨L, O⟩
 refine N_use O ?_
 have hm := P
 refine N_then (G_ret ?_)
 obtain rfl := Option.some.inj hm
 exact N_ret [.bool G] (rC RVs_nil) (⟨rfl, L.pk []⟩)
theorem c_i_Copying_roundWith (w : World) (b : Copying) (m : Option Addr) (j : Nat) (u : Seg) (a8 : ownS Gx.encI b.Memory m j u) (n : Option Addr) (k : Nat) (v : Seg) (a9 : ownS Gx.encI b.Copy n k v) (o : Option Addr) (l : Nat) (x : Seg) (ba : ownS Gx.encB b.Dirty o l x) (c : Nat) (d : List Store) (g : Option Addr) (i : Nat) (ab : rdS encStore w d g i) (z : Int) (hA : ∀ q ∈ List.flatten [[(c, .cells ⟨[.slice m b.Memory.length j, .slice n b.Copy.length k, .slice o b.Dirty.length l]⟩ 28 (0, 0))], u, v, x], w.heap[q.1]? = some q.2) (hN : (idsOf [[(c, .cells ⟨[.slice m b.Memory.length j, .slice n b.Copy.length k, .slice o b.Dirty.length l]⟩ 28 (0, 0))], u, v, x]).Nodup) (ac : apartX (idsOf [[(c, .cells ⟨[.slice m b.Memory.length j, .slice n b.Copy.length k, .slice o b.Dirty.length l]⟩ 28 (0, 0))], u, v, x]) d g) {r : Int × (List Int) × (List Int) × (List Bool)} (hm : M.i_Copying_roundWith b d z = some r) :
  Calls Try.prog 81 #[pB c 0, .slice g d.length i, iv z] w fun e w' => ∃ (ah : Option Addr) (Y : Nat) (ak : Seg), ∃ (ai : Option Addr) (Z : Nat) (al : Seg), ∃ (aj : Option Addr) (aa : Nat) (am : Seg), e = .returned (iv r.1) ∧ ownS Gx.encI r.2.1 ah Y ak ∧ ownS Gx.encI r.2.2.1 ai Z al ∧ ownS Gx.encB r.2.2.2 aj aa am ∧ Mem (idsOf [[(c, .cells ⟨[.slice m b.Memory.length j, .slice n b.Copy.length k, .slice o b.Dirty.length l]⟩ 28 (0, 0))], u, v, x]) w w' [[(c, .cells ⟨[.slice ah r.2.1.length Y, .slice ai r.2.2.1.length Z, .slice aj r.2.2.2.length aa]⟩ 28 (0, 0))], ak, al, am] := by
 unfold M.i_Copying_roundWith at hm
 refine cE Try.func81 ?_
 have M0 := Mem.start' w [[(c, .cells ⟨[.slice m b.Memory.length j, .slice n b.Copy.length k, .slice o b.Dirty.length l]⟩ 28 (0, 0))], u, v, x] hA hN
 refine G_seq (G_region (wR 1 [(0, pB c 0), (1, .slice g d.length i), (2, iv z)] w (W_nil (N_then (G_seq (G_region (wR 2 [(0, pB c 0), (1, .slice g d.length i), (10, pB c 0), (11, iv z)] w ?_)))))))
 obtain ⟨t, bl, hm⟩ := gx_bind hm
 refine wC 75 #[pB c 0, iv z] ((c_i_Copying_round w b m j u a8 n k v a9 o l x ba c z (M0.hasPick [0, 1, 2, 3]) (M0.nodupPick [0, 1, 2, 3] (by kernel_rfl)) bl).mono ?_)
 rintro e_ an ⟨bo, ax, bu, bp, ay, bv, bq, az, bw, rfl, bb, bc, bd, ao⟩
 have aq := M0.callF' [0, 1, 2, 3] [] (by kernel_rfl) ao
 refine ⟨_, rfl, ?_⟩
 refine wR 1 [(0, pB c 0), (1, .slice g d.length i), (7, iv t.1)] an (W_nil (N_then (G_seq (G_seq (G_region (wR 3 [(0, pB c 0), (7, iv t.1), (13, .slice g d.length i), (14, iv (d.length : Int)), (15, iv 0)] an (W_nil (N_then ?_))))))))
 obtain ⟨y, bn, a7⟩ := gx_bind hm
 refine G_meet (fun a w' => ∃ (P : Option Addr), ∃ (L : Nat), ∃ (S : Seg), ∃ (Q : Option Addr), ∃ (N : Nat), ∃ (T : Seg), ∃ (R : Option Addr), ∃ (O : Nat), ∃ (U : Seg), ownS Gx.encI y.1 P L S ∧ ownS Gx.encI y.2.1 Q N T ∧ ownS Gx.encB y.2.2 R O U ∧ Mem (idsOf [[(c, .cells ⟨[.slice m b.Memory.length j, .slice n b.Copy.length k, .slice o b.Dirty.length l]⟩ 28 (0, 0))], u, v, x]) w w' [[(c, .cells ⟨[.slice P y.1.length L, .slice Q y.2.1.length N, .slice R y.2.2.length O]⟩ 28 (0, 0))], S, T, U] ∧ Sat Try.f81.ntmps [(7, iv t.1)] a) ?_ ?_
 ·refine G_block (G_while (σ := Int × List Int × List Int × List Bool) (ρ := List Int × List Int × List Bool) (fun f a w' => ∃ (D : Option Addr), ∃ (A : Nat), ∃ (G : Seg), ∃ (E : Option Addr), ∃ (B : Nat), ∃ (H : Seg), ∃ (F : Option Addr), ∃ (C : Nat), ∃ (I : Seg), ownS Gx.encI f.2.1 D A G ∧ ownS Gx.encI f.2.2.1 E B H ∧ ownS Gx.encB f.2.2.2 F C I ∧ Mem (idsOf [[(c, .cells ⟨[.slice m b.Memory.length j, .slice n b.Copy.length k, .slice o b.Dirty.length l]⟩ 28 (0, 0))], u, v, x]) w w' [[(c, .cells ⟨[.slice D f.2.1.length A, .slice E f.2.2.1.length B, .slice F f.2.2.2.length C]⟩ 28 (0, 0))], G, H, I] ∧ Sat Try.f81.ntmps [(0, pB c 0), (7, iv t.1), (13, .slice g d.length i), (14, iv (d.length : Int)), (15, iv f.1)] a) bn (fun a ha => ⟨bo, ax, bu, bp, ay, bv, bq, az, bw, bb, bc, bd, aq.pk [0, 1, 2, 3], ha.s⟩) ?_)
  clear hm
  intro f b7 hm bk b3 W ⟨D, A, G, E, B, H, F, C, I, ad, ae, af, J, a5⟩
  refine G_use a5 (G_seq (G_region (wR 1 [(0, pB c 0), (7, iv t.1), (13, .slice g d.length i), (14, iv (d.length : Int)), (15, iv f.1), (16, .bool (decide (f.1 < (d.length : Int))))] W (W_nil (N_then (G_seq ?_))))))
  rcases gx_bif hm with ⟨V, hm⟩ | ⟨V, hm⟩
  ·refine gT V (G_skip (N_then (G_seq (G_block (G_seq (G_region ?_))))))
   obtain ⟨h, ag, hm⟩ := gx_bind hm
   refine wV (elemP g (f.1.toNat * 2)) W (eI (ab.memX ac J) rfl ag) (wV (.agg #[iv h.Word, iv h.Value]) W (eE true 2 0 (f.1.toNat * 2) (ab.memX ac J) ag) (wN (.cells ⟨[iv 0, iv 0]⟩ 46 (0, 0)) J ?_))
   intro aw b6 ar
   refine wS true 2 0 (.agg #[iv h.Word, iv h.Value]) 4 [iv h.Word, iv h.Value] ar rfl ?_
   intro X K
   refine W_nil (N_then (G_region (wR 1 [(0, pB c 0), (7, iv t.1), (9, pB aw 0), (13, .slice g d.length i), (14, iv (d.length : Int)), (15, iv f.1), (19, pB c 0)] X (wV (.agg #[iv h.Word, iv h.Value]) X (eL true 2 0 (K.blk 4 rfl)) ?_))))
   obtain ⟨b5, bm, hm⟩ := gx_bind hm
   refine wC 72 #[pB c 0, .agg #[iv h.Word, iv h.Value]] ((c_i_Copying_store X (⟨f.2.1, f.2.2.1, f.2.2.2⟩ : Copying) D A G ad E B H ae F C I af c h (K.hasPick [0, 1, 2, 3]) (K.nodupPick [0, 1, 2, 3] (by kernel_rfl)) bm).mono ?_)
   rintro e_ b1 ⟨br, a0, bx, bs, a3, bz, bt, a4, b0, rfl, bh, bi, bj, ap⟩
   have au := K.callF' [0, 1, 2, 3] [4] (by kernel_rfl) ap
   refine ⟨_, rfl, ?_⟩
   refine W_nil (N_block (N_then (G_region (wR 2 [(0, pB c 0), (7, iv t.1), (13, .slice g d.length i), (14, iv (d.length : Int)), (15, iv (w64 (f.1 + 1)))] b1 (W_nil ?_)))))
   obtain rfl := Option.some.inj hm
   exact N_loop fun a ha => ⟨_, rfl, br, a0, bx, bs, a3, bz, bt, a4, b0, bh, bi, bj, au.pk [1, 2, 3, 4], ha.s⟩
  refine gF V (G_exit (N_then_exit (N_then_exit (N_block_eq ?_))))
  obtain rfl := Option.some.inj hm
  obtain rfl := bk _ rfl
  exact N_meet fun a ha => ⟨D, A, G, E, B, H, F, C, I, ad, ae, af, J.pk [0, 1, 2, 3], ha.s⟩
 intro b4 b2 ⟨P, L, S, Q, N, T, R, O, U, be, bf, bg, av, a6⟩
 refine N_use a6 ?_
 have hm := a7
 refine N_then (G_seq (G_region (wR 2 [(6, iv t.1)] b2 (W_nil (N_then (G_ret ?_))))))
 obtain rfl := Option.some.inj hm
 exact N_ret [iv t.1] (rC RVs_nil) (⟨P, L, S, Q, N, T, R, O, U, rfl, be, bf, bg, av.pk [0, 1, 2, 3]⟩)
theorem c_i_RoundsUntil (w : World) (c : Copying) (o : Option Addr) (l : Nat) (ad : rdS Gx.encI w c.Memory o l) (q : Option Addr) (m : Nat) (ae : rdS Gx.encI w c.Copy q m) (t : Option Addr) (n : Nat) (af : rdS Gx.encB w c.Dirty t n) (d : List (List Store)) (g : Option Addr) (i : Nat) (ag : rdD (deepL encStore) w d g i) (f : Int) (j : Int) {r : Int × Bool} (hm : M.i_RoundsUntil c d f j = some r) :
  Calls Try.prog 38 #[.agg #[.slice o c.Memory.length l, .slice q c.Copy.length m, .slice t c.Dirty.length n], .slice g d.length i, iv f, iv j] w fun e w' => e = .returned (.tuple #[iv r.1, .bool r.2]) ∧ Mem [] w w' [] := by
 unfold M.i_RoundsUntil at hm
 refine cE Try.func38 ?_
 have M0 := Mem.refl [] w
 refine G_seq (G_region (wN (.cells ⟨[.slice o c.Memory.length l, .slice q c.Copy.length m, .slice t c.Dirty.length n]⟩ 28 (0, 0)) M0 ?_))
 intro y P F
 refine wR 2 [(1, .slice g d.length i), (2, iv f), (3, iv j), (4, pB y 0)] P (W_nil (N_then (G_seq (G_seq ?_))))
 obtain ⟨bl, a8, a7⟩ := gx_bind hm
 refine G_meet (fun a w' => Mem [] w w' [[(y, .cells ⟨[.slice o c.Memory.length l, .slice q c.Copy.length m, .slice t c.Dirty.length n]⟩ 28 (0, 0))]] ∧ Sat Try.f38.ntmps [(1, .slice g d.length i), (2, iv f), (3, iv j), (4, pB y 0), (20, .bool bl)] a) ?_ ?_
 ·have hm := a8
  refine G_region (wV (.agg #[.slice o c.Memory.length l, .slice q c.Copy.length m, .slice t c.Dirty.length n]) P (eL true 3 0 (F.blk 0 rfl)) (wR 2 [(1, .slice g d.length i), (2, iv f), (3, iv j), (4, pB y 0), (12, .agg #[.slice o c.Memory.length l, .slice q c.Copy.length m, .slice t c.Dirty.length n]), (13, .slice g d.length i), (14, iv f)] P ?_))
  obtain ⟨bp, bf, hm⟩ := gx_bind hm
  refine wC 80 #[.agg #[.slice o c.Memory.length l, .slice q c.Copy.length m, .slice t c.Dirty.length n], .slice g d.length i, iv f] ((c_i_areRounds P c o l (ad.mem0 F) q m (ae.mem0 F) t n (af.mem0 F) d g i (ag.mem0 F) f bf).mono ?_)
  rintro e_ aa ⟨rfl, aq⟩
  have ac := F.call0 aq
  refine ⟨_, rfl, ?_⟩
  refine wR 2 [(1, .slice g d.length i), (2, iv f), (3, iv j), (4, pB y 0), (17, .bool (!bp))] aa ?_
  rcases gx_bif hm with ⟨T, hm⟩ | ⟨T, hm⟩
  ·refine wK 17 true T (wR 3 [(1, .slice g d.length i), (2, iv f), (3, iv j), (4, pB y 0), (20, .bool true)] aa (W_nil ?_))
   obtain rfl := Option.some.inj hm
   exact N_meet fun a ha => ⟨ac.pk [0], ha.s⟩
  refine wK 17 false T (wR 3 [(1, .slice g d.length i), (2, iv f), (3, iv j), (4, pB y 0), (20, .bool (decide (j < 0)))] aa (W_nil ?_))
  obtain rfl := Option.some.inj hm
  exact N_meet fun a ha => ⟨ac.pk [0], ha.s⟩
 intro b0 ab ⟨G, a5⟩
 refine N_use a5 ?_
 have hm := a7
 refine N_then ?_
 rcases gx_bif hm with ⟨U, hm⟩ | ⟨U, hm⟩
 ·refine gT U (G_seq (G_region (wR 2 [(8, iv 0), (9, .bool false)] ab (W_nil (N_then (G_ret (N_then_ret ?_)))))))
  obtain rfl := Option.some.inj hm
  exact N_ret [iv 0, .bool false] (rC (rC RVs_nil)) (⟨rfl, G.pk []⟩)
 refine gF U (G_skip (N_then (G_seq (G_region (wV (.agg #[.slice o c.Memory.length l, .slice q c.Copy.length m, .slice t c.Dirty.length n]) ab (eL true 3 0 (G.blk 0 rfl)) ?_)))))
 obtain ⟨H, bg, hm⟩ := gx_bind hm
 refine wC 71 #[.agg #[.slice o c.Memory.length l, .slice q c.Copy.length m, .slice t c.Dirty.length n]] ((c_i_newCopying ab c o l (ad.mem0 G) q m (ae.mem0 G) t n (af.mem0 G) bg).mono ?_)
 rintro e_ b8 ⟨X, Q, br, Y, R, bs, Z, S, bt, rfl, a9, ba, bb, ar⟩
 have aw := G.call ar
 refine ⟨_, rfl, ?_⟩
 refine wN (.cells ⟨[.slice none 0 0, .slice none 0 0, .slice none 0 0]⟩ 28 (0, 0)) aw ?_
 intro u b9 ax
 refine wS true 3 0 (.agg #[.slice X H.Memory.length Q, .slice Y H.Copy.length R, .slice Z H.Dirty.length S]) 4 [.slice X H.Memory.length Q, .slice Y H.Copy.length R, .slice Z H.Dirty.length S] ax rfl ?_
 intro bx ay
 refine W_nil (N_then (G_seq (G_region (wR 1 [(1, .slice g d.length i), (2, iv f), (3, iv j), (10, pB u 0), (11, iv 0)] bx (W_nil (N_then ?_))))))
 obtain ⟨b4, bj, ai⟩ := gx_bind hm
 refine G_meet (fun a w' => False) ?_ ?_
 ·refine G_block (G_while (σ := Int × List Int × List Int × List Bool) (ρ := Int × Bool) (fun b a w' => ∃ (C : Option Addr), ∃ (z : Nat), ∃ (L : Seg), ∃ (D : Option Addr), ∃ (A : Nat), ∃ (N : Seg), ∃ (E : Option Addr), ∃ (B : Nat), ∃ (O : Seg), ownS Gx.encI b.2.1 C z L ∧ ownS Gx.encI b.2.2.1 D A N ∧ ownS Gx.encB b.2.2.2 E B O ∧ Mem [] w w' [[(u, .cells ⟨[.slice C b.2.1.length z, .slice D b.2.2.1.length A, .slice E b.2.2.2.length B]⟩ 28 (0, 0))], L, N, O] ∧ Sat Try.f38.ntmps [(1, .slice g d.length i), (2, iv f), (3, iv j), (10, pB u 0), (11, iv b.1)] a) bj (fun a ha => ⟨X, Q, br, Y, R, bs, Z, S, bt, a9, ba, bb, ay.pk [4, 1, 2, 3], ha.s⟩) ?_)
  clear hm
  intro b ca hm am b1 ap ⟨C, z, L, D, A, N, E, B, O, aj, ak, al, J, a6⟩
  refine G_use a6 (G_seq (G_block (G_seq (G_seq (G_region (wV (.agg #[.slice C b.2.1.length z, .slice D b.2.2.1.length A, .slice E b.2.2.2.length B]) ap (eL true 3 0 (J.blk 0 rfl)) ?_))))))
  obtain ⟨bq, bh, hm⟩ := gx_bind hm
  refine wC 66 #[.agg #[.slice C b.2.1.length z, .slice D b.2.2.1.length A, .slice E b.2.2.2.length B]] ((c_i_dirtyWords ap (⟨b.2.1, b.2.2.1, b.2.2.2⟩ : Copying) C z (aj.rd J 1 (by kernel_rfl)) D A (ak.rd J 2 (by kernel_rfl)) E B (al.rd J 3 (by kernel_rfl)) bh).mono ?_)
  rintro e_ x ⟨b5, b2, b7, rfl, b3, au⟩
  have v := J.call au
  refine ⟨_, rfl, ?_⟩
  refine wR 3 [(1, .slice g d.length i), (2, iv f), (3, iv j), (10, pB u 0), (11, iv b.1), (29, .bool (decide ((bq.length : Int) ≤ j)))] x (W_nil (N_then ?_))
  rcases gx_bif hm with ⟨V, hm⟩ | ⟨V, hm⟩
  ·refine gT V (G_seq (G_region (wR 3 [(8, iv b.1), (9, .bool true)] x (W_nil (N_then (G_ret (N_then_ret (N_block_ret (N_then_ret (N_then_ret ?_))))))))))
   obtain rfl := Option.some.inj hm
   obtain rfl := am _ rfl
   have hm := ai
   refine N_block_ret (N_meet_ret ?_)
   obtain rfl := Option.some.inj hm
   exact N_ret [iv b.1, .bool true] (rC (rC RVs_nil)) (⟨rfl, v.pk []⟩)
  refine gF V (G_skip (N_then (G_seq (G_seq (G_region (wR 4 [(1, .slice g d.length i), (2, iv f), (3, iv j), (10, pB u 0), (11, iv b.1), (34, .bool (b.1 == (d.length : Int)))] x (W_nil (N_then ?_))))))))
  rcases gx_bif hm with ⟨W, hm⟩ | ⟨W, hm⟩
  ·refine gT W (G_seq (G_region (wR 2 [(8, iv 0), (9, .bool false)] x (W_nil (N_then (G_ret (N_then_ret (N_block_ret (N_then_ret (N_then_ret ?_))))))))))
   obtain rfl := Option.some.inj hm
   obtain rfl := am _ rfl
   have hm := ai
   refine N_block_ret (N_meet_ret ?_)
   obtain rfl := Option.some.inj hm
   exact N_ret [iv 0, .bool false] (rC (rC RVs_nil)) (⟨rfl, v.pk []⟩)
  refine gF W (G_skip (N_then (G_region (wR 2 [(1, .slice g d.length i), (2, iv f), (3, iv j), (10, pB u 0), (11, iv b.1), (35, .slice g d.length i), (36, iv b.1)] x ?_))))
  obtain ⟨I, bk, hm⟩ := gx_bind hm
  obtain ⟨cb, ao, an, ah⟩ := id ag
  obtain ⟨k, K⟩ := gxIdx_fst ao bk
  refine wV (elemP g (b.1.toNat * 1)) x (eI (an.mem0 v) (len_fst ao) K) (wV (.slice ((k 0).1) I.length ((k 0).2)) x (eE false 1 0 (b.1.toNat * 1) (an.mem0 v) K) (wR 1 [(1, .slice g d.length i), (2, iv f), (3, iv j), (10, pB u 0), (11, iv b.1), (38, .slice ((k 0).1) I.length ((k 0).2)), (39, iv f)] x ?_))
  obtain ⟨b6, bi, hm⟩ := gx_bind hm
  refine wC 81 #[pB u 0, .slice ((k 0).1) I.length ((k 0).2), iv f] ((c_i_Copying_roundWith x (⟨b.2.1, b.2.2.1, b.2.2.2⟩ : Copying) C z L aj D A N ak E B O al u I ((k 0).1) ((k 0).2) ((ah.mem0 v).at_ K 0 ⟨Store, encStore, I, (k 0).1, (k 0).2⟩ (by kernel_rfl)) f (v.hasPick [0, 1, 2, 3]) (v.nodupPick [0, 1, 2, 3] (by kernel_rfl)) ((apartI.old0 ah v [0, 1, 2, 3]).at_ K 0 ⟨Store, encStore, I, (k 0).1, (k 0).2⟩ (by kernel_rfl)) bi).mono ?_)
  rintro e_ bz ⟨bm, a0, bu, bn, a3, bv, bo, a4, bw, rfl, bc, bd, be, av⟩
  have az := v.callF' [0, 1, 2, 3] [4] (by kernel_rfl) av
  refine ⟨_, rfl, ?_⟩
  refine W_nil (N_block (N_then (G_region (wR 3 [(1, .slice g d.length i), (2, iv f), (3, iv j), (10, pB u 0), (11, iv (w64 (b.1 + 1)))] bz (W_nil ?_)))))
  obtain rfl := Option.some.inj hm
  exact N_loop fun a ha => ⟨_, rfl, bm, a0, bu, bn, a3, bv, bo, a4, bw, bc, bd, be, az.pk [1, 2, 3, 4], ha.s⟩
 intro _ _ h
 exact h.elim
theorem c_l_eqStore (w : World) (b : Store) (c : Store) {r : Bool} (hm : M.l_eqStore b c = some r) :
  Calls Try.prog 101 #[.agg #[iv b.Word, iv b.Value], .agg #[iv c.Word, iv c.Value]] w fun e w' => e = .returned (.bool r) ∧ Mem [] w w' [] := by
 unfold M.l_eqStore at hm
 refine cE Try.func101 ?_
 have M0 := Mem.refl [] w
 refine G_seq (G_region (wN (.cells ⟨[iv b.Word, iv b.Value]⟩ 46 (0, 0)) M0 ?_))
 intro g k j
 refine wN (.cells ⟨[iv c.Word, iv c.Value]⟩ 46 (0, 0)) j ?_
 intro f a d
 refine wR 1 [(2, pB g 0), (3, pB f 0)] a (W_nil (N_then (G_seq (G_seq (G_region (wR 1 [(2, pB g 0), (3, pB f 0), (5, pB g 0)] a (wV (iv b.Word) a (eL false 1 0 (d.blk 0 rfl)) (wR 1 [(2, pB g 0), (3, pB f 0), (6, iv b.Word), (7, pB f 0)] a (wV (iv c.Word) a (eL false 1 0 (d.blk 1 rfl)) (wR 1 [(2, pB g 0), (3, pB f 0), (9, .bool (b.Word != c.Word))] a (W_nil (N_then ?_))))))))))))
 rcases gx_bif hm with ⟨h, hm⟩ | ⟨h, hm⟩
 ·refine gT h (G_seq (G_region (wR 1 [(4, .bool false)] a (W_nil (N_then (G_ret (N_then_ret ?_)))))))
  obtain rfl := Option.some.inj hm
  exact N_ret [.bool false] (rC RVs_nil) (⟨rfl, d.pk []⟩)
 refine gF h (G_skip (N_then (G_seq (G_seq (G_region (wR 1 [(3, pB f 0), (10, pB g 1)] a (wV (iv b.Value) a (eL false 1 1 (d.blk 0 rfl)) (wR 1 [(11, iv b.Value), (12, pB f 1)] a (wV (iv c.Value) a (eL false 1 1 (d.blk 1 rfl)) (wR 1 [(14, .bool (b.Value != c.Value))] a (W_nil (N_then ?_))))))))))))
 rcases gx_bif hm with ⟨i, hm⟩ | ⟨i, hm⟩
 ·refine gT i (G_seq (G_region (wR 1 [(4, .bool false)] a (W_nil (N_then (G_ret (N_then_ret ?_)))))))
  obtain rfl := Option.some.inj hm
  exact N_ret [.bool false] (rC RVs_nil) (⟨rfl, d.pk []⟩)
 refine gF i (G_skip (N_then (G_seq (G_region (wR 1 [(4, .bool true)] a (W_nil (N_then (G_ret ?_))))))))
 obtain rfl := Option.some.inj hm
 exact N_ret [.bool true] (rC RVs_nil) (⟨rfl, d.pk []⟩)
end Go.Proofs.Ytjbblcdajdpfkaa
