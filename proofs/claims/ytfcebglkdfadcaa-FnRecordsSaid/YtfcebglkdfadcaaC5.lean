/- The walks, printed by program: whenever the model gives r, the call returns r. Part 5. -/
import Derived.Test.YtfcebglkdfadcaaM
import Derived.Test.YtfcebglkdfadcaaGxZ
import Derived.Test.YtfcebglkdfadcaaProg
import Derived.Test.YtfcebglkdfadcaaSh
import Derived.Test.YtfcebglkdfadcaaC4
set_option linter.unusedVariables false
set_option maxRecDepth 100000
set_option maxHeartbeats 4000000
namespace Go.Proofs.Ytfcebglkdfadcaa
open Go.Gx
theorem c_l_heldIntS (w : World) (c : List Int) (d : Option Addr) (f : Nat) (m : rdS Gx.encI w c d f) (j : Int) {r : Int} (hm : M.l_heldIntS c j = some r) :
  Calls Try.prog 43 #[.slice d c.length f, iv j] w fun e w' => e = .returned (iv r) ∧ Mem [] w w' [] := by
 unfold M.l_heldIntS at hm
 refine cE Try.func43 ?_
 have M0 := Mem.refl [] w
 refine G_seq (G_region (wR 1 [(0, .slice d c.length f), (1, iv j)] w (W_nil (N_then (G_seq (G_seq (G_region (wR 1 [(0, .slice d c.length f), (1, iv j), (5, iv 0)] w (W_nil (N_then ?_))))))))))
 obtain ⟨z, y, n⟩ := gx_bind hm
 refine G_meet (fun a w' => ∃ (i : Int), z = .inl i ∧ Mem [] w w' [] ∧ Sat Try.f43.ntmps [(1, iv i)] a) ?_ ?_
 ·refine G_block (G_while (σ := Int × Int) (ρ := (Int) ⊕ (Int)) (fun b a w' => Mem [] w w' [] ∧ Sat Try.f43.ntmps [(0, .slice d c.length f), (1, iv b.1), (5, iv b.2)] a) y (fun a ha => ⟨M0.pk [], ha.s⟩) ?_)
  clear hm
  intro b D hm o B g ⟨h, v⟩
  refine G_use v (G_seq (G_seq (G_region (wR 4 [(0, .slice d c.length f), (1, iv b.1), (5, iv b.2), (9, .bool (decide (b.2 < (c.length : Int))))] g (W_nil (N_then ?_))))))
  rcases gx_bif hm with ⟨k, hm⟩ | ⟨k, hm⟩
  ·refine gT k (G_skip (N_then (G_seq (G_block (G_seq (G_seq (G_region (wR 2 [(0, .slice d c.length f), (1, iv b.1), (5, iv b.2), (12, .slice d c.length f), (13, iv b.2)] g ?_))))))))
   obtain ⟨t, q, hm⟩ := gx_bind hm
   refine wV (elemP d (b.2.toNat * 1)) g (eI (m.mem0 h) rfl q) (wV (iv t) g (eE false 1 0 (b.2.toNat * 1) (m.mem0 h) q) (wR 2 [(0, .slice d c.length f), (1, iv b.1), (5, iv b.2), (17, .bool (t != b.1))] g (W_nil (N_then ?_))))
   rcases gx_bif hm with ⟨l, hm⟩ | ⟨l, hm⟩
   ·refine gT l (G_seq (G_region (wR 1 [(4, iv (-1))] g (W_nil (N_then (G_ret (N_then_ret (N_block_ret (N_then_ret (N_then_ret ?_))))))))))
    obtain rfl := Option.some.inj hm
    obtain rfl := o _ rfl
    have hm := n; simp only [Sum.elim_inr] at hm
    refine N_block_ret (N_meet_ret (N_then_ret ?_))
    obtain rfl := Option.some.inj hm
    exact N_ret [iv (-1)] (rC RVs_nil) (⟨rfl, h.pk []⟩)
   refine gF l (G_skip (N_then (G_region (wR 3 [(0, .slice d c.length f), (1, iv (w64 (b.1 + 1))), (5, iv b.2)] g (W_nil (N_block (N_then (G_region (wR 3 [(0, .slice d c.length f), (1, iv (w64 (b.1 + 1))), (5, iv (w64 (b.2 + 1)))] g (W_nil ?_))))))))))
   obtain rfl := Option.some.inj hm
   exact N_loop fun a ha => ⟨_, rfl, h.pk [], ha.s⟩
  refine gF k (G_exit (N_then_exit (N_then_exit (N_block_eq ?_))))
  obtain rfl := Option.some.inj hm
  obtain rfl := o _ rfl
  exact N_meet fun a ha => ⟨_, rfl, h.pk [], ha.s⟩
 intro C A ⟨i, hout_, u, x⟩
 refine N_use x ?_
 subst hout_
 have hm := n; simp only [Sum.elim_inl] at hm
 refine N_then (G_seq (G_region (wR 2 [(4, iv i)] A (W_nil (N_then (G_ret ?_))))))
 obtain rfl := Option.some.inj hm
 exact N_ret [iv i] (rC RVs_nil) (⟨rfl, u.pk []⟩)
theorem c_l_FnExactCountKinds (w : World) (i : List Event) (k : Option Addr) (j : Nat) (F : rdS encEvent w i k j) {r : Bool} (hm : M.l_FnExactCountKinds i = some r) :
  Calls Try.prog 11 #[.slice k i.length j] w fun e w' => e = .returned (.bool r) ∧ Mem [] w w' [] := by
 unfold M.l_FnExactCountKinds at hm
 refine cE Try.func11 ?_
 have M0 := Mem.refl [] w
 refine G_seq (G_region (wR 1 [(0, .slice k i.length j)] w (W_nil (N_then (G_seq (G_region (wR 1 [(0, .slice k i.length j), (3, iv 1048576)] w (W_nil (N_then (G_seq (G_region (wR 2 [(0, .slice k i.length j), (3, iv 1048576), (17, .slice k i.length j), (18, iv 1048576)] w ?_))))))))))))
 obtain ⟨cb, ds, hm⟩ := gx_bind hm
 refine wC 17 #[.slice k i.length j, iv 1048576] ((c_l_szEventS w i k j (F.mem0 M0) 1048576 ds).mono ?_)
 rintro e_ I ⟨rfl, cs⟩
 have al := M0.call0 cs
 refine ⟨_, rfl, ?_⟩
 refine wR 1 [(0, .slice k i.length j), (3, iv cb)] I (W_nil (N_then (G_seq (G_seq (G_region (wR 2 [(0, .slice k i.length j), (21, .bool (decide (cb < 0)))] I (W_nil (N_then ?_))))))))
 rcases gx_bif hm with ⟨a4, hm⟩ | ⟨a4, hm⟩
 ·refine gT a4 (G_seq (G_region (wR 1 [(2, .bool true)] I (W_nil (N_then (G_ret (N_then_ret ?_)))))))
  obtain rfl := Option.some.inj hm
  exact N_ret [.bool true] (rC RVs_nil) (⟨rfl, al.pk []⟩)
 refine gF a4 (G_skip (N_then (G_seq (G_region (wR 1 [(0, .slice k i.length j), (23, .slice k i.length j)] I ?_)))))
 obtain ⟨cc, dt, hm⟩ := gx_bind hm
 refine wC 19 #[.slice k i.length j] ((c_l_toEventS I i k j (F.mem0 al) dt).mono ?_)
 rintro e_ eh ⟨b8, b2, er, rfl, dd, ct⟩
 have bw := al.call ct
 refine ⟨_, rfl, ?_⟩
 obtain ⟨b, du, hm⟩ := gx_bind hm
 refine wC 36 #[.slice b8 cc.length b2] ((c_s_CountKinds eh cc b8 b2 (dd.rd bw 0 (by kernel_rfl)) du).mono ?_)
 rintro e_ bm ⟨q, o, ce, n, m, cf, rfl, bb, bc, cu⟩
 have bx := bw.call cu
 refine ⟨_, rfl, ?_⟩
 refine wR 7 [(0, .slice k i.length j), (4, .slice q b.1.length o), (5, .slice n b.2.1.length m), (6, .bool b.2.2)] bm (W_nil (N_then (G_seq (G_region (wR 1 [(0, .slice k i.length j), (4, .slice q b.1.length o), (5, .slice n b.2.1.length m), (6, .bool b.2.2), (29, .slice k i.length j)] bm ?_)))))
 obtain ⟨x, dv, hm⟩ := gx_bind hm
 refine wC 19 #[.slice k i.length j] ((c_l_toEventS bm i k j (F.mem0 bx) dv).mono ?_)
 rintro e_ bn ⟨v, u, cg, rfl, bd, cv⟩
 have bz := bx.call cv
 refine ⟨_, rfl, ?_⟩
 refine wR 1 [(0, .slice k i.length j), (4, .slice q b.1.length o), (5, .slice n b.2.1.length m), (6, .bool b.2.2), (7, .slice v x.length u)] bn (W_nil (N_then (G_seq (G_region (wR 1 [(0, .slice k i.length j), (4, .slice q b.1.length o), (5, .slice n b.2.1.length m), (6, .bool b.2.2), (7, .slice v x.length u), (32, .slice v x.length u)] bn ?_)))))
 obtain ⟨c, dw, hm⟩ := gx_bind hm
 refine wC 37 #[.slice v x.length u] ((c_i_CountKinds bn x v u (bd.rd bz 3 (by kernel_rfl)) dw).mono ?_)
 rintro e_ bo ⟨h, g, bh, f, d, bi, rfl, be, bf, cw⟩
 have am := bz.call cw
 refine ⟨_, rfl, ?_⟩
 refine wR 7 [(0, .slice k i.length j), (4, .slice q b.1.length o), (5, .slice n b.2.1.length m), (6, .bool b.2.2), (7, .slice v x.length u), (8, .slice h c.1.length g), (9, .slice f c.2.1.length d), (10, .bool c.2.2)] bo (W_nil (N_then (G_seq (G_seq ?_))))
 obtain ⟨d5, de, c7⟩ := gx_bind hm
 refine G_meet (fun a w' => Mem [] w w' [ce, cf, cg, bh, bi] ∧ Sat Try.f11.ntmps [(0, .slice k i.length j), (4, .slice q b.1.length o), (5, .slice n b.2.1.length m), (6, .bool b.2.2), (7, .slice v x.length u), (8, .slice h c.1.length g), (9, .slice f c.2.1.length d), (10, .bool c.2.2), (51, .bool d5)] a) ?_ ?_
 ·have hm := de
  refine G_region (wR 2 [(0, .slice k i.length j), (4, .slice q b.1.length o), (5, .slice n b.2.1.length m), (6, .bool b.2.2), (7, .slice v x.length u), (8, .slice h c.1.length g), (9, .slice f c.2.1.length d), (10, .bool c.2.2), (37, .slice h c.1.length g), (38, .slice q b.1.length o)] bo ?_)
  obtain ⟨d9, dx, hm⟩ := gx_bind hm
  refine wC 38 #[.slice h c.1.length g, .slice q b.1.length o] ((c_l_eqStringS bo c.1 h g (be.rd am 4 (by kernel_rfl)) b.1 q o (bb.rd am 1 (by kernel_rfl)) dx).mono ?_)
  rintro e_ ad ⟨rfl, cx⟩
  have P := am.call0 cx
  refine ⟨_, rfl, ?_⟩
  refine wR 2 [(0, .slice k i.length j), (4, .slice q b.1.length o), (5, .slice n b.2.1.length m), (6, .bool b.2.2), (7, .slice v x.length u), (8, .slice h c.1.length g), (9, .slice f c.2.1.length d), (10, .bool c.2.2), (41, .bool (!d9))] ad ?_
  rcases gx_bif hm with ⟨a5, hm⟩ | ⟨a5, hm⟩
  ·refine wK 41 true a5 (wR 10 [(0, .slice k i.length j), (4, .slice q b.1.length o), (5, .slice n b.2.1.length m), (6, .bool b.2.2), (7, .slice v x.length u), (8, .slice h c.1.length g), (9, .slice f c.2.1.length d), (10, .bool c.2.2), (51, .bool true)] ad (W_nil ?_))
   obtain rfl := Option.some.inj hm
   exact N_meet fun a ha => ⟨P.pk [1, 2, 3, 4, 5], ha.s⟩
  refine wK 41 false a5 (wR 2 [(0, .slice k i.length j), (4, .slice q b.1.length o), (5, .slice n b.2.1.length m), (6, .bool b.2.2), (7, .slice v x.length u), (8, .slice h c.1.length g), (9, .slice f c.2.1.length d), (10, .bool c.2.2), (41, .bool false), (42, .slice f c.2.1.length d), (43, .slice n b.2.1.length m)] ad ?_)
  obtain ⟨ea, dy, hm⟩ := gx_bind hm
  refine wC 39 #[.slice f c.2.1.length d, .slice n b.2.1.length m] ((c_l_eqIntS ad c.2.1 f d (bf.rd P 5 (by kernel_rfl)) b.2.1 n m (bc.rd P 2 (by kernel_rfl)) dy).mono ?_)
  rintro e_ bp ⟨rfl, cy⟩
  have b0 := P.call0 cy
  refine ⟨_, rfl, ?_⟩
  refine wR 3 [(0, .slice k i.length j), (4, .slice q b.1.length o), (5, .slice n b.2.1.length m), (6, .bool b.2.2), (7, .slice v x.length u), (8, .slice h c.1.length g), (9, .slice f c.2.1.length d), (10, .bool c.2.2), (47, .bool (!ea))] bp ?_
  rcases gx_bif hm with ⟨a6, hm⟩ | ⟨a6, hm⟩
  ·refine wK 47 true a6 (wR 4 [(0, .slice k i.length j), (4, .slice q b.1.length o), (5, .slice n b.2.1.length m), (6, .bool b.2.2), (7, .slice v x.length u), (8, .slice h c.1.length g), (9, .slice f c.2.1.length d), (10, .bool c.2.2), (51, .bool true)] bp (W_nil ?_))
   obtain rfl := Option.some.inj hm
   exact N_meet fun a ha => ⟨b0.pk [1, 2, 3, 4, 5], ha.s⟩
  refine wK 47 false a6 (wR 4 [(0, .slice k i.length j), (4, .slice q b.1.length o), (5, .slice n b.2.1.length m), (6, .bool b.2.2), (7, .slice v x.length u), (8, .slice h c.1.length g), (9, .slice f c.2.1.length d), (10, .bool c.2.2), (51, .bool (!(c.2.2 == b.2.2)))] bp (W_nil ?_))
  obtain rfl := Option.some.inj hm
  exact N_meet fun a ha => ⟨b0.pk [1, 2, 3, 4, 5], ha.s⟩
 intro el bq ⟨an, c5⟩
 refine N_use c5 ?_
 have hm := c7
 refine N_then ?_
 rcases gx_bif hm with ⟨a7, hm⟩ | ⟨a7, hm⟩
 ·refine gT a7 (G_seq (G_region (wR 1 [(2, .bool false)] bq (W_nil (N_then (G_ret (N_then_ret ?_)))))))
  obtain rfl := Option.some.inj hm
  exact N_ret [.bool false] (rC RVs_nil) (⟨rfl, an.pk []⟩)
 refine gF a7 (G_skip (N_then (G_seq (G_seq (G_region (wR 2 [(0, .slice k i.length j), (4, .slice q b.1.length o), (5, .slice n b.2.1.length m), (6, .bool b.2.2), (7, .slice v x.length u), (8, .slice h c.1.length g), (9, .slice f c.2.1.length d), (10, .bool c.2.2), (52, .slice v x.length u), (53, .slice k i.length j)] bq ?_))))))
 obtain ⟨cd, dz, hm⟩ := gx_bind hm
 refine wC 19 #[.slice k i.length j] ((c_l_toEventS bq i k j (F.mem0 an) dz).mono ?_)
 rintro e_ ei ⟨b9, b3, es, rfl, df, cz⟩
 have ao := an.call cz
 refine ⟨_, rfl, ?_⟩
 obtain ⟨eb, d0, hm⟩ := gx_bind hm
 refine wC 21 #[.slice v x.length u, .slice b9 cd.length b3] ((c_l_eqEventS ei x v u (bd.rd ao 2 (by kernel_rfl)) cd b9 b3 (df.rd ao 5 (by kernel_rfl)) d0).mono ?_)
 rintro e_ J ⟨rfl, c0⟩
 have Q := ao.call0 c0
 refine ⟨_, rfl, ?_⟩
 refine wR 1 [(0, .slice k i.length j), (4, .slice q b.1.length o), (5, .slice n b.2.1.length m), (6, .bool b.2.2), (7, .slice v x.length u), (8, .slice h c.1.length g), (9, .slice f c.2.1.length d), (10, .bool c.2.2), (56, .bool (!eb))] J (W_nil (N_then ?_))
 rcases gx_bif hm with ⟨a8, hm⟩ | ⟨a8, hm⟩
 ·refine gT a8 (G_seq (G_region (wR 1 [(2, .bool false)] J (W_nil (N_then (G_ret (N_then_ret ?_)))))))
  obtain rfl := Option.some.inj hm
  exact N_ret [.bool false] (rC RVs_nil) (⟨rfl, Q.pk []⟩)
 refine gF a8 (G_skip (N_then (G_seq (G_region (wR 1 [(0, .slice k i.length j), (4, .slice q b.1.length o), (5, .slice n b.2.1.length m), (6, .bool b.2.2), (7, .slice v x.length u), (8, .slice h c.1.length g), (9, .slice f c.2.1.length d), (10, .bool c.2.2), (11, iv 1)] J (W_nil (N_then (G_seq (G_region (wR 2 [(0, .slice k i.length j), (4, .slice q b.1.length o), (5, .slice n b.2.1.length m), (6, .bool b.2.2), (8, .slice h c.1.length g), (9, .slice f c.2.1.length d), (10, .bool c.2.2), (11, iv 1), (57, .slice v x.length u), (58, iv 1)] J ?_))))))))))
 obtain ⟨bg, d1, hm⟩ := gx_bind hm
 refine wC 28 #[.slice v x.length u, iv 1] ((c_l_markEventS J x v u cg bd 1 (Q.hasPick [2]) (Q.nodupPick [2] (by kernel_rfl)) d1).mono ?_)
 rintro e_ K ⟨et, rfl, em, b4, c1⟩
 have R := Q.callF' [2] [0, 1, 3, 4, 5] (by kernel_rfl) c1
 refine ⟨_, rfl, ?_⟩
 refine wX 57 (.slice v x.length u) (.slice v bg.2.length u) (by first | rw [b4] | rw [b4]) (wR 1 [(0, .slice k i.length j), (4, .slice q b.1.length o), (5, .slice n b.2.1.length m), (6, .bool b.2.2), (8, .slice h c.1.length g), (9, .slice f c.2.1.length d), (10, .bool c.2.2), (11, iv bg.1)] K (W_nil (N_then (G_seq (G_seq ?_)))))
 obtain ⟨d6, dg, c8⟩ := gx_bind hm
 refine G_meet (fun a w' => Mem [] w w' [ce, cf, bh, bi] ∧ Sat Try.f11.ntmps [(0, .slice k i.length j), (4, .slice q b.1.length o), (5, .slice n b.2.1.length m), (6, .bool b.2.2), (8, .slice h c.1.length g), (9, .slice f c.2.1.length d), (78, .bool d6)] a) ?_ ?_
 ·have hm := dg
  refine G_region (wR 3 [(0, .slice k i.length j), (4, .slice q b.1.length o), (5, .slice n b.2.1.length m), (6, .bool b.2.2), (8, .slice h c.1.length g), (9, .slice f c.2.1.length d), (10, .bool c.2.2), (62, .bool (decide (bg.1 < 0)))] K ?_)
  rcases gx_bif hm with ⟨a9, hm⟩ | ⟨a9, hm⟩
  ·refine wK 62 true a9 (wR 16 [(0, .slice k i.length j), (4, .slice q b.1.length o), (5, .slice n b.2.1.length m), (6, .bool b.2.2), (8, .slice h c.1.length g), (9, .slice f c.2.1.length d), (78, .bool true)] K (W_nil ?_))
   obtain rfl := Option.some.inj hm
   exact N_meet fun a ha => ⟨R.pk [0, 1, 2, 3], ha.s⟩
  refine wK 62 false a9 (wR 2 [(0, .slice k i.length j), (4, .slice q b.1.length o), (5, .slice n b.2.1.length m), (6, .bool b.2.2), (8, .slice h c.1.length g), (9, .slice f c.2.1.length d), (10, .bool c.2.2), (62, .bool false), (63, .slice h c.1.length g), (64, .slice q b.1.length o)] K ?_)
  obtain ⟨ec, d2, hm⟩ := gx_bind hm
  refine wC 38 #[.slice h c.1.length g, .slice q b.1.length o] ((c_l_eqStringS K c.1 h g (be.rd R 2 (by kernel_rfl)) b.1 q o (bb.rd R 0 (by kernel_rfl)) d2).mono ?_)
  rintro e_ ae ⟨rfl, c2⟩
  have S := R.call0 c2
  refine ⟨_, rfl, ?_⟩
  refine wR 3 [(0, .slice k i.length j), (4, .slice q b.1.length o), (5, .slice n b.2.1.length m), (6, .bool b.2.2), (8, .slice h c.1.length g), (9, .slice f c.2.1.length d), (10, .bool c.2.2), (68, .bool (!ec))] ae ?_
  rcases gx_bif hm with ⟨ba, hm⟩ | ⟨ba, hm⟩
  ·refine wK 68 true ba (wR 10 [(0, .slice k i.length j), (4, .slice q b.1.length o), (5, .slice n b.2.1.length m), (6, .bool b.2.2), (8, .slice h c.1.length g), (9, .slice f c.2.1.length d), (78, .bool true)] ae (W_nil ?_))
   obtain rfl := Option.some.inj hm
   exact N_meet fun a ha => ⟨S.pk [0, 1, 2, 3], ha.s⟩
  refine wK 68 false ba (wR 2 [(0, .slice k i.length j), (4, .slice q b.1.length o), (5, .slice n b.2.1.length m), (6, .bool b.2.2), (8, .slice h c.1.length g), (9, .slice f c.2.1.length d), (10, .bool c.2.2), (68, .bool false), (69, .slice f c.2.1.length d), (70, .slice n b.2.1.length m)] ae ?_)
  obtain ⟨ed, d3, hm⟩ := gx_bind hm
  refine wC 39 #[.slice f c.2.1.length d, .slice n b.2.1.length m] ((c_l_eqIntS ae c.2.1 f d (bf.rd S 3 (by kernel_rfl)) b.2.1 n m (bc.rd S 1 (by kernel_rfl)) d3).mono ?_)
  rintro e_ br ⟨rfl, ch⟩
  have bs := S.call0 ch
  refine ⟨_, rfl, ?_⟩
  refine wR 3 [(0, .slice k i.length j), (4, .slice q b.1.length o), (5, .slice n b.2.1.length m), (6, .bool b.2.2), (8, .slice h c.1.length g), (9, .slice f c.2.1.length d), (10, .bool c.2.2), (74, .bool (!ed))] br ?_
  rcases gx_bif hm with ⟨ap, hm⟩ | ⟨ap, hm⟩
  ·refine wK 74 true ap (wR 4 [(0, .slice k i.length j), (4, .slice q b.1.length o), (5, .slice n b.2.1.length m), (6, .bool b.2.2), (8, .slice h c.1.length g), (9, .slice f c.2.1.length d), (78, .bool true)] br (W_nil ?_))
   obtain rfl := Option.some.inj hm
   exact N_meet fun a ha => ⟨bs.pk [0, 1, 2, 3], ha.s⟩
  refine wK 74 false ap (wR 4 [(0, .slice k i.length j), (4, .slice q b.1.length o), (5, .slice n b.2.1.length m), (6, .bool b.2.2), (8, .slice h c.1.length g), (9, .slice f c.2.1.length d), (78, .bool (!(c.2.2 == b.2.2)))] br (W_nil ?_))
  obtain rfl := Option.some.inj hm
  exact N_meet fun a ha => ⟨bs.pk [0, 1, 2, 3], ha.s⟩
 intro ej Z ⟨L, c3⟩
 refine N_use c3 ?_
 have hm := c8
 refine N_then ?_
 rcases gx_bif hm with ⟨aq, hm⟩ | ⟨aq, hm⟩
 ·refine gT aq (G_seq (G_region (wR 1 [(2, .bool false)] Z (W_nil (N_then (G_ret (N_then_ret ?_)))))))
  obtain rfl := Option.some.inj hm
  exact N_ret [.bool false] (rC RVs_nil) (⟨rfl, L.pk []⟩)
 refine gF aq (G_skip (N_then (G_seq (G_region (wR 1 [(0, .slice k i.length j), (4, .slice q b.1.length o), (5, .slice n b.2.1.length m), (6, .bool b.2.2), (8, .slice h c.1.length g), (9, .slice f c.2.1.length d), (12, iv 1)] Z (W_nil (N_then (G_seq (G_region (wR 2 [(0, .slice k i.length j), (4, .slice q b.1.length o), (5, .slice n b.2.1.length m), (6, .bool b.2.2), (8, .slice h c.1.length g), (9, .slice f c.2.1.length d), (12, iv 1), (79, .slice h c.1.length g), (80, iv 1)] Z ?_))))))))))
 obtain ⟨t, dh, hm⟩ := gx_bind hm
 refine wC 40 #[.slice h c.1.length g, iv 1] ((c_l_markStringS Z c.1 h g bh be 1 (L.hasPick [2]) (L.nodupPick [2] (by kernel_rfl)) dh).mono ?_)
 rintro e_ bj ⟨ee, rfl, b5, U, ci⟩
 have af := L.callF' [2] [0, 1, 3] (by kernel_rfl) ci
 refine ⟨_, rfl, ?_⟩
 refine wX 8 (.slice h c.1.length g) (.slice h t.2.length g) (by first | rw [U] | rw [U]) (wX 79 (.slice h c.1.length g) (.slice h t.2.length g) (by first | rw [U] | rw [U]) (wR 1 [(0, .slice k i.length j), (4, .slice q b.1.length o), (5, .slice n b.2.1.length m), (6, .bool b.2.2), (8, .slice h t.2.length g), (9, .slice f c.2.1.length d), (12, iv t.1)] bj (W_nil (N_then (G_seq (G_region (wR 2 [(0, .slice k i.length j), (4, .slice q b.1.length o), (5, .slice n b.2.1.length m), (6, .bool b.2.2), (8, .slice h t.2.length g), (9, .slice f c.2.1.length d), (12, iv t.1), (82, .slice f c.2.1.length d), (83, iv t.1)] bj ?_)))))))
 obtain ⟨l, di, hm⟩ := gx_bind hm
 refine wC 41 #[.slice f c.2.1.length d, iv t.1] ((c_l_markIntS bj c.2.1 f d bi bf t.1 (af.hasPick [2]) (af.nodupPick [2] (by kernel_rfl)) di).mono ?_)
 rintro e_ aa ⟨ef, rfl, b6, V, cj⟩
 have bt := af.callF' [2] [0, 1, 3] (by kernel_rfl) cj
 refine ⟨_, rfl, ?_⟩
 refine wX 9 (.slice f c.2.1.length d) (.slice f l.2.length d) (by first | rw [V] | rw [V]) (wX 82 (.slice f c.2.1.length d) (.slice f l.2.length d) (by first | rw [V] | rw [V]) (wR 1 [(0, .slice k i.length j), (4, .slice q b.1.length o), (5, .slice n b.2.1.length m), (6, .bool b.2.2), (8, .slice h t.2.length g), (9, .slice f l.2.length d), (12, iv l.1)] aa (W_nil (N_then (G_seq (G_region (wR 1 [(0, .slice k i.length j), (4, .slice q b.1.length o), (5, .slice n b.2.1.length m), (6, .bool b.2.2), (8, .slice h t.2.length g), (9, .slice f l.2.length d), (12, iv l.1), (13, iv 1)] aa (W_nil (N_then (G_seq (G_region (wR 2 [(0, .slice k i.length j), (4, .slice q b.1.length o), (5, .slice n b.2.1.length m), (6, .bool b.2.2), (8, .slice h t.2.length g), (9, .slice f l.2.length d), (12, iv l.1), (13, iv 1), (85, .slice h t.2.length g), (86, iv 1)] aa ?_))))))))))))
 obtain ⟨z, dj, hm⟩ := gx_bind hm
 refine wC 42 #[.slice h t.2.length g, iv 1] ((c_l_heldStringS aa t.2 h g (b5.rd bt 2 (by kernel_rfl)) 1 dj).mono ?_)
 rintro e_ G ⟨rfl, ck⟩
 have ag := bt.call0 ck
 refine ⟨_, rfl, ?_⟩
 refine wR 1 [(0, .slice k i.length j), (4, .slice q b.1.length o), (5, .slice n b.2.1.length m), (6, .bool b.2.2), (8, .slice h t.2.length g), (9, .slice f l.2.length d), (12, iv l.1), (13, iv z)] G (W_nil (N_then (G_seq (G_seq (G_region (wR 2 [(0, .slice k i.length j), (4, .slice q b.1.length o), (5, .slice n b.2.1.length m), (6, .bool b.2.2), (8, .slice h t.2.length g), (9, .slice f l.2.length d), (12, iv l.1), (13, iv z), (89, .bool (decide (z < 0)))] G (W_nil (N_then ?_))))))))
 rcases gx_bif hm with ⟨ar, hm⟩ | ⟨ar, hm⟩
 ·refine gT ar (G_seq (G_region (wR 1 [(2, .bool false)] G (W_nil (N_then (G_ret (N_then_ret ?_)))))))
  obtain rfl := Option.some.inj hm
  exact N_ret [.bool false] (rC RVs_nil) (⟨rfl, ag.pk []⟩)
 refine gF ar (G_skip (N_then (G_seq (G_region (wR 2 [(0, .slice k i.length j), (4, .slice q b.1.length o), (5, .slice n b.2.1.length m), (6, .bool b.2.2), (8, .slice h t.2.length g), (9, .slice f l.2.length d), (12, iv l.1), (13, iv z), (90, .slice f l.2.length d), (91, iv z)] G ?_)))))
 obtain ⟨X, dk, hm⟩ := gx_bind hm
 refine wC 43 #[.slice f l.2.length d, iv z] ((c_l_heldIntS G l.2 f d (b6.rd ag 3 (by kernel_rfl)) z dk).mono ?_)
 rintro e_ B ⟨rfl, cl⟩
 have N := ag.call0 cl
 refine ⟨_, rfl, ?_⟩
 refine wR 1 [(0, .slice k i.length j), (4, .slice q b.1.length o), (5, .slice n b.2.1.length m), (6, .bool b.2.2), (8, .slice h t.2.length g), (9, .slice f l.2.length d), (12, iv l.1), (13, iv X)] B (W_nil (N_then (G_seq (G_seq (G_region (wR 2 [(0, .slice k i.length j), (4, .slice q b.1.length o), (5, .slice n b.2.1.length m), (6, .bool b.2.2), (8, .slice h t.2.length g), (9, .slice f l.2.length d), (12, iv l.1), (13, iv X), (94, .bool (decide (X < 0)))] B (W_nil (N_then ?_))))))))
 rcases gx_bif hm with ⟨au, hm⟩ | ⟨au, hm⟩
 ·refine gT au (G_seq (G_region (wR 1 [(2, .bool false)] B (W_nil (N_then (G_ret (N_then_ret ?_)))))))
  obtain rfl := Option.some.inj hm
  exact N_ret [.bool false] (rC RVs_nil) (⟨rfl, N.pk []⟩)
 refine gF au (G_skip (N_then (G_seq (G_seq (G_region (wR 3 [(0, .slice k i.length j), (4, .slice q b.1.length o), (5, .slice n b.2.1.length m), (6, .bool b.2.2), (8, .slice h t.2.length g), (9, .slice f l.2.length d), (12, iv l.1), (97, .bool (X != l.1))] B (W_nil (N_then ?_))))))))
 rcases gx_bif hm with ⟨av, hm⟩ | ⟨av, hm⟩
 ·refine gT av (G_seq (G_region (wR 1 [(2, .bool false)] B (W_nil (N_then (G_ret (N_then_ret ?_)))))))
  obtain rfl := Option.some.inj hm
  exact N_ret [.bool false] (rC RVs_nil) (⟨rfl, N.pk []⟩)
 refine gF av (G_skip (N_then (G_seq (G_region (wR 1 [(4, .slice q b.1.length o), (5, .slice n b.2.1.length m), (6, .bool b.2.2), (8, .slice h t.2.length g), (9, .slice f l.2.length d), (12, iv l.1), (99, .slice k i.length j)] B ?_)))))
 obtain ⟨ca, dl, hm⟩ := gx_bind hm
 refine wC 19 #[.slice k i.length j] ((c_l_toEventS B i k j (F.mem0 N) dl).mono ?_)
 rintro e_ eg ⟨b7, b1, en, rfl, c9, cm⟩
 have bu := N.call cm
 refine ⟨_, rfl, ?_⟩
 obtain ⟨y, dm, hm⟩ := gx_bind hm
 refine wC 37 #[.slice b7 ca.length b1] ((c_i_CountKinds eg ca b7 b1 (c9.rd bu 4 (by kernel_rfl)) dm).mono ?_)
 rintro e_ bk ⟨W, T, eo, D, C, ep, rfl, da, db, cn⟩
 have ah := bu.call cn
 refine ⟨_, rfl, ?_⟩
 refine wR 7 [(4, .slice q b.1.length o), (5, .slice n b.2.1.length m), (6, .bool b.2.2), (8, .slice h t.2.length g), (9, .slice f l.2.length d), (12, iv l.1), (14, .slice W y.1.length T), (15, .slice D y.2.1.length C), (16, .bool y.2.2)] bk (W_nil (N_then (G_seq (G_seq ?_))))
 obtain ⟨d4, dc, c6⟩ := gx_bind hm
 refine G_meet (fun a w' => Mem [] w w' [ee, ef] ∧ Sat Try.f11.ntmps [(8, .slice h t.2.length g), (9, .slice f l.2.length d), (12, iv l.1), (119, .bool d4)] a) ?_ ?_
 ·have hm := dc
  refine G_region (wR 2 [(5, .slice n b.2.1.length m), (6, .bool b.2.2), (8, .slice h t.2.length g), (9, .slice f l.2.length d), (12, iv l.1), (15, .slice D y.2.1.length C), (16, .bool y.2.2), (105, .slice W y.1.length T), (106, .slice q b.1.length o)] bk ?_)
  obtain ⟨d7, dn, hm⟩ := gx_bind hm
  refine wC 38 #[.slice W y.1.length T, .slice q b.1.length o] ((c_l_eqStringS bk y.1 W T (da.rd ah 5 (by kernel_rfl)) b.1 q o (bb.rd ah 0 (by kernel_rfl)) dn).mono ?_)
  rintro e_ ab ⟨rfl, co⟩
  have O := ah.call0 co
  refine ⟨_, rfl, ?_⟩
  refine wR 2 [(5, .slice n b.2.1.length m), (6, .bool b.2.2), (8, .slice h t.2.length g), (9, .slice f l.2.length d), (12, iv l.1), (15, .slice D y.2.1.length C), (16, .bool y.2.2), (109, .bool (!d7))] ab ?_
  rcases gx_bif hm with ⟨aw, hm⟩ | ⟨aw, hm⟩
  ·refine wK 109 true aw (wR 10 [(8, .slice h t.2.length g), (9, .slice f l.2.length d), (12, iv l.1), (119, .bool true)] ab (W_nil ?_))
   obtain rfl := Option.some.inj hm
   exact N_meet fun a ha => ⟨O.pk [2, 3], ha.s⟩
  refine wK 109 false aw (wR 2 [(6, .bool b.2.2), (8, .slice h t.2.length g), (9, .slice f l.2.length d), (12, iv l.1), (16, .bool y.2.2), (109, .bool false), (110, .slice D y.2.1.length C), (111, .slice n b.2.1.length m)] ab ?_)
  obtain ⟨d8, dp, hm⟩ := gx_bind hm
  refine wC 39 #[.slice D y.2.1.length C, .slice n b.2.1.length m] ((c_l_eqIntS ab y.2.1 D C (db.rd O 6 (by kernel_rfl)) b.2.1 n m (bc.rd O 1 (by kernel_rfl)) dp).mono ?_)
  rintro e_ bl ⟨rfl, cp⟩
  have bv := O.call0 cp
  refine ⟨_, rfl, ?_⟩
  refine wR 3 [(6, .bool b.2.2), (8, .slice h t.2.length g), (9, .slice f l.2.length d), (12, iv l.1), (16, .bool y.2.2), (115, .bool (!d8))] bl ?_
  rcases gx_bif hm with ⟨ax, hm⟩ | ⟨ax, hm⟩
  ·refine wK 115 true ax (wR 4 [(8, .slice h t.2.length g), (9, .slice f l.2.length d), (12, iv l.1), (119, .bool true)] bl (W_nil ?_))
   obtain rfl := Option.some.inj hm
   exact N_meet fun a ha => ⟨bv.pk [2, 3], ha.s⟩
  refine wK 115 false ax (wR 4 [(8, .slice h t.2.length g), (9, .slice f l.2.length d), (12, iv l.1), (119, .bool (!(y.2.2 == b.2.2)))] bl (W_nil ?_))
  obtain rfl := Option.some.inj hm
  exact N_meet fun a ha => ⟨bv.pk [2, 3], ha.s⟩
 intro ek ac ⟨ai, c4⟩
 refine N_use c4 ?_
 have hm := c6
 refine N_then ?_
 rcases gx_bif hm with ⟨ay, hm⟩ | ⟨ay, hm⟩
 ·refine gT ay (G_seq (G_region (wR 1 [(2, .bool false)] ac (W_nil (N_then (G_ret (N_then_ret ?_)))))))
  obtain rfl := Option.some.inj hm
  exact N_ret [.bool false] (rC RVs_nil) (⟨rfl, ai.pk []⟩)
 refine gF ay (G_skip (N_then (G_seq (G_region (wR 1 [(8, .slice h t.2.length g), (9, .slice f l.2.length d), (12, iv l.1), (13, iv 1)] ac (W_nil (N_then (G_seq (G_region (wR 2 [(9, .slice f l.2.length d), (12, iv l.1), (13, iv 1), (120, .slice h t.2.length g), (121, iv 1)] ac ?_))))))))))
 obtain ⟨A, dq, hm⟩ := gx_bind hm
 refine wC 42 #[.slice h t.2.length g, iv 1] ((c_l_heldStringS ac t.2 h g (b5.rd ai 0 (by kernel_rfl)) 1 dq).mono ?_)
 rintro e_ H ⟨rfl, cq⟩
 have aj := ai.call0 cq
 refine ⟨_, rfl, ?_⟩
 refine wR 1 [(9, .slice f l.2.length d), (12, iv l.1), (13, iv A)] H (W_nil (N_then (G_seq (G_seq (G_region (wR 2 [(9, .slice f l.2.length d), (12, iv l.1), (13, iv A), (124, .bool (decide (A < 0)))] H (W_nil (N_then ?_))))))))
 rcases gx_bif hm with ⟨az, hm⟩ | ⟨az, hm⟩
 ·refine gT az (G_seq (G_region (wR 1 [(2, .bool false)] H (W_nil (N_then (G_ret (N_then_ret ?_)))))))
  obtain rfl := Option.some.inj hm
  exact N_ret [.bool false] (rC RVs_nil) (⟨rfl, aj.pk []⟩)
 refine gF az (G_skip (N_then (G_seq (G_region (wR 2 [(12, iv l.1), (13, iv A), (125, .slice f l.2.length d), (126, iv A)] H ?_)))))
 obtain ⟨Y, dr, hm⟩ := gx_bind hm
 refine wC 43 #[.slice f l.2.length d, iv A] ((c_l_heldIntS H l.2 f d (b6.rd aj 1 (by kernel_rfl)) A dr).mono ?_)
 rintro e_ E ⟨rfl, cr⟩
 have ak := aj.call0 cr
 refine ⟨_, rfl, ?_⟩
 refine wR 1 [(12, iv l.1), (13, iv Y)] E (W_nil (N_then (G_seq (G_seq (G_region (wR 2 [(12, iv l.1), (13, iv Y), (129, .bool (decide (Y < 0)))] E (W_nil (N_then ?_))))))))
 rcases gx_bif hm with ⟨a0, hm⟩ | ⟨a0, hm⟩
 ·refine gT a0 (G_seq (G_region (wR 1 [(2, .bool false)] E (W_nil (N_then (G_ret (N_then_ret ?_)))))))
  obtain rfl := Option.some.inj hm
  exact N_ret [.bool false] (rC RVs_nil) (⟨rfl, ak.pk []⟩)
 refine gF a0 (G_skip (N_then (G_seq (G_seq (G_region (wR 3 [(132, .bool (Y != l.1))] E (W_nil (N_then ?_))))))))
 rcases gx_bif hm with ⟨a3, hm⟩ | ⟨a3, hm⟩
 ·refine gT a3 (G_seq (G_region (wR 1 [(2, .bool false)] E (W_nil (N_then (G_ret (N_then_ret ?_)))))))
  obtain rfl := Option.some.inj hm
  exact N_ret [.bool false] (rC RVs_nil) (⟨rfl, ak.pk []⟩)
 refine gF a3 (G_skip (N_then (G_seq (G_region (wR 1 [(2, .bool true)] E (W_nil (N_then (G_ret ?_))))))))
 obtain rfl := Option.some.inj hm
 exact N_ret [.bool true] (rC RVs_nil) (⟨rfl, ak.pk []⟩)
theorem c_l_rBig (w : World) (a : List Int) (c : Option Addr) (b : Nat) (d : rdS Gx.encU8 w a c b) {r : Bool} (hm : M.l_rBig a = some r) :
  Calls Try.prog 44 #[.slice c a.length b] w fun e w' => e = .returned (.bool r) ∧ Mem [] w w' [] := by
 unfold M.l_rBig at hm
 refine cE Try.func44 ?_
 have M0 := Mem.refl [] w
 refine G_seq (G_region (wR 1 [(0, .slice c a.length b)] w (W_nil (N_then (G_seq (G_region (wR 4 [(2, .bool (decide ((a.length : Int) > 65536)))] w (W_nil (N_then (G_ret ?_))))))))))
 obtain rfl := Option.some.inj hm
 exact N_ret [.bool (decide ((a.length : Int) > 65536))] (rC RVs_nil) (⟨rfl, M0.pk []⟩)
theorem c_s_l1Cur_next (w : World) (b : l1Cur) (d : Option Addr) (g : Nat) (v : rdS Gx.encU8 w b.code d g) (c : Nat) (hA : ∀ q ∈ List.flatten [[(c, .cells ⟨[.slice d b.code.length g, iv b.at_, .int .u64 b.seed]⟩ 83 (0, 0))]], w.heap[q.1]? = some q.2) (hN : (idsOf [[(c, .cells ⟨[.slice d b.code.length g, iv b.at_, .int .u64 b.seed]⟩ 83 (0, 0))]]).Nodup) (x : apartX (idsOf [[(c, .cells ⟨[.slice d b.code.length g, iv b.at_, .int .u64 b.seed]⟩ 83 (0, 0))]]) b.code d) {r : Int × Int × Int} (hm : M.s_l1Cur_next b = some r) :
  Calls Try.prog 90 #[pB c 0] w fun e w' => e = .returned (iv r.1) ∧ Mem (idsOf [[(c, .cells ⟨[.slice d b.code.length g, iv b.at_, .int .u64 b.seed]⟩ 83 (0, 0))]]) w w' [[(c, .cells ⟨[.slice d b.code.length g, iv r.2.1, .int .u64 r.2.2]⟩ 83 (0, 0))]] := by
 unfold M.s_l1Cur_next at hm
 refine cE Try.func90 ?_
 have M0 := Mem.start' w [[(c, .cells ⟨[.slice d b.code.length g, iv b.at_, .int .u64 b.seed]⟩ 83 (0, 0))]] hA hN
 refine G_seq (G_region (wR 1 [(0, pB c 0)] w (W_nil (N_then (G_seq (G_region (wR 1 [(0, pB c 0), (3, iv 0)] w (W_nil (N_then (G_seq (G_seq (G_quiet (by kernel_rfl) (by kernel_rfl) M0 (zR [pB c 0, pB c 0, pB c 1] [(0, pB c 0), (3, iv 0), (6, pB c 1)] (zV (iv b.at_) (fun w_ M_ => (eL false 1 1 (M_.blk 0 rfl))) (zR [pB c 0, pB c 0, pB c 0] [(0, pB c 0), (3, iv 0), (7, iv b.at_), (10, pB c 0)] ?_)))))))))))))))
 refine zV (.slice d b.code.length g) (fun w_ M_ => (eL false 1 0 (M_.blk 0 rfl))) (zR [iv (b.code.length : Int), .bool (decide (b.at_ < (b.code.length : Int)))] [(0, pB c 0), (3, iv 0), (13, .bool (decide (b.at_ < (b.code.length : Int))))] (Z_end fun F o => (N_then ?_)))
 obtain ⟨f, D, C⟩ := gx_bind hm
 refine G_meet (fun a w' => Mem (idsOf [[(c, .cells ⟨[.slice d b.code.length g, iv b.at_, .int .u64 b.seed]⟩ 83 (0, 0))]]) w w' [[(c, .cells ⟨[.slice d b.code.length g, iv b.at_, .int .u64 b.seed]⟩ 83 (0, 0))]] ∧ Sat Try.f90.ntmps [(0, pB c 0), (3, iv f)] a) ?_ ?_
 ·have hm := D
  rcases gx_bif hm with ⟨k, hm⟩ | ⟨k, hm⟩
  ·refine gT k (G_quiet (by kernel_rfl) (by kernel_rfl) o (zR [pB c 0, pB c 0, pB c 0] [(0, pB c 0), (3, iv 0), (16, pB c 0)] (zV (.slice d b.code.length g) (fun w_ M_ => (eL false 1 0 (M_.blk 0 rfl))) (zR [pB c 0, pB c 0, pB c 1] [(0, pB c 0), (3, iv 0), (17, .slice d b.code.length g), (20, pB c 1)] (zV (iv b.at_) (fun w_ M_ => (eL false 1 1 (M_.blk 0 rfl))) ?_)))))
   obtain ⟨i, y, hm⟩ := gx_bind hm
   refine zV (elemP d (b.at_.toNat * 1)) (fun w_ M_ => (eI (v.memX x M_) rfl y)) (zV (.int .u8 i) (fun w_ M_ => (eE false 1 0 (b.at_.toNat * 1) (v.memX x M_) y)) (zR [iv (w64 i), iv (w64 i)] [(0, pB c 0), (3, iv (w64 i))] (Z_end fun G z => ?_)))
   obtain rfl := Option.some.inj hm
   exact N_meet fun a ha => ⟨z.pk [0], ha.s⟩
  refine gF k (G_skip ?_)
  obtain rfl := Option.some.inj hm
  exact N_meet fun a ha => ⟨o.pk [0], ha.s⟩
 intro E m ⟨t, B⟩
 refine N_use B ?_
 have hm := C
 refine N_then (G_seq (G_region (wR 3 [(0, pB c 0), (3, iv f), (25, pB c 0), (27, pB c 1)] m (wV (iv b.at_) m (eL false 1 1 (t.blk 0 rfl)) (wR 3 [(0, pB c 0), (3, iv f), (29, iv (w64 (b.at_ + 1))), (31, pB c 1)] m (wS false 1 1 (iv (w64 (b.at_ + 1))) 0 [.slice d b.code.length g, iv (w64 (b.at_ + 1)), .int .u64 b.seed] t rfl ?_))))))
 intro n u
 refine W_nil (N_then (G_seq (G_region (wR 4 [(0, pB c 0), (3, iv f), (32, pB c 0), (35, pB c 2)] n (wV (.int .u64 b.seed) n (eL false 1 2 (u.blk 0 rfl)) (wR 7 [(0, pB c 0), (3, iv f), (41, .int .u64 (IntKind.u64.wrap ((IntKind.u64.wrap ((IntKind.u64.wrap (b.seed * 6364136223846793005)) + (IntKind.u64.wrap f))) + 843843))), (43, pB c 2)] n (wS false 1 2 (.int .u64 (IntKind.u64.wrap ((IntKind.u64.wrap ((IntKind.u64.wrap (b.seed * 6364136223846793005)) + (IntKind.u64.wrap f))) + 843843))) 0 [.slice d b.code.length g, iv (w64 (b.at_ + 1)), .int .u64 (IntKind.u64.wrap ((IntKind.u64.wrap ((IntKind.u64.wrap (b.seed * 6364136223846793005)) + (IntKind.u64.wrap f))) + 843843))] u rfl ?_)))))))
 intro H A
 refine W_nil (N_then (G_seq (G_seq (G_quiet (by kernel_rfl) (by kernel_rfl) A (zR [pB c 0, pB c 0, pB c 1] [(0, pB c 0), (3, iv f), (46, pB c 1)] (zV (iv (w64 (b.at_ + 1))) (fun w_ M_ => (eL false 1 1 (M_.blk 0 rfl))) (zR [pB c 0, pB c 0, pB c 0] [(0, pB c 0), (3, iv f), (47, iv (w64 (b.at_ + 1))), (50, pB c 0)] (zV (.slice d b.code.length g) (fun w_ M_ => (eL false 1 0 (M_.blk 0 rfl))) (zR [iv (b.code.length : Int), .bool (decide ((w64 (b.at_ + 1)) ≤ (b.code.length : Int)))] [(0, pB c 0), (3, iv f), (53, .bool (decide ((w64 (b.at_ + 1)) ≤ (b.code.length : Int))))] (Z_end fun h j => (N_then ?_)))))))))))
 rcases gx_bif hm with ⟨l, hm⟩ | ⟨l, hm⟩
 ·refine gT l (G_seq (G_region (wR 2 [(2, iv f)] h (W_nil (N_then (G_ret (N_then_ret ?_)))))))
  obtain rfl := Option.some.inj hm
  exact N_ret [iv f] (rC RVs_nil) (⟨rfl, j.pk [0]⟩)
 refine gF l (G_skip (N_then (G_seq (G_region (wR 3 [(57, pB c 2)] h (wV (.int .u64 (IntKind.u64.wrap ((IntKind.u64.wrap ((IntKind.u64.wrap (b.seed * 6364136223846793005)) + (IntKind.u64.wrap f))) + 843843))) h (eL false 1 2 (j.blk 0 rfl)) (wR 4 [(2, iv (w64 (gxAnd .u64 ((IntKind.u64.wrap ((IntKind.u64.wrap ((IntKind.u64.wrap (b.seed * 6364136223846793005)) + (IntKind.u64.wrap f))) + 843843)).fdiv (2 ^ 40)) 255)))] h (W_nil (N_then (G_ret ?_))))))))))
 obtain rfl := Option.some.inj hm
 exact N_ret [iv (w64 (gxAnd .u64 ((IntKind.u64.wrap ((IntKind.u64.wrap ((IntKind.u64.wrap (b.seed * 6364136223846793005)) + (IntKind.u64.wrap f))) + 843843)).fdiv (2 ^ 40)) 255))] (rC RVs_nil) (⟨rfl, j.pk [0]⟩)
theorem c_s_l1Cur_pick (w : World) (b : l1Cur) (f : Option Addr) (g : Nat) (k : rdS Gx.encU8 w b.code f g) (c : Nat) (d : Int) (hA : ∀ q ∈ List.flatten [[(c, .cells ⟨[.slice f b.code.length g, iv b.at_, .int .u64 b.seed]⟩ 83 (0, 0))]], w.heap[q.1]? = some q.2) (hN : (idsOf [[(c, .cells ⟨[.slice f b.code.length g, iv b.at_, .int .u64 b.seed]⟩ 83 (0, 0))]]).Nodup) (l : apartX (idsOf [[(c, .cells ⟨[.slice f b.code.length g, iv b.at_, .int .u64 b.seed]⟩ 83 (0, 0))]]) b.code f) {r : Int × Int × Int} (hm : M.s_l1Cur_pick b d = some r) :
  Calls Try.prog 77 #[pB c 0, iv d] w fun e w' => e = .returned (iv r.1) ∧ Mem (idsOf [[(c, .cells ⟨[.slice f b.code.length g, iv b.at_, .int .u64 b.seed]⟩ 83 (0, 0))]]) w w' [[(c, .cells ⟨[.slice f b.code.length g, iv r.2.1, .int .u64 r.2.2]⟩ 83 (0, 0))]] := by
 unfold M.s_l1Cur_pick at hm
 refine cE Try.func77 ?_
 have M0 := Mem.start' w [[(c, .cells ⟨[.slice f b.code.length g, iv b.at_, .int .u64 b.seed]⟩ 83 (0, 0))]] hA hN
 refine G_seq (G_region (wR 1 [(0, pB c 0), (1, iv d)] w (W_nil (N_then (G_seq (G_seq (G_region (wR 2 [(0, pB c 0), (1, iv d), (7, .bool (decide (d ≤ 1)))] w (W_nil (N_then ?_))))))))))
 rcases gx_bif hm with ⟨o, hm⟩ | ⟨o, hm⟩
 ·refine gT o (G_seq (G_region (wR 1 [(4, iv 0)] w (W_nil (N_then (G_ret (N_then_ret ?_)))))))
  obtain rfl := Option.some.inj hm
  exact N_ret [iv 0] (rC RVs_nil) (⟨rfl, M0.pk [0]⟩)
 refine gF o (G_skip (N_then (G_seq (G_region (wR 1 [(0, pB c 0), (1, iv d), (8, pB c 0)] w ?_)))))
 obtain ⟨h, E, hm⟩ := gx_bind hm
 refine wC 90 #[pB c 0] ((c_s_l1Cur_next w b f g (k.memX l M0) c (M0.hasPick [0]) (M0.nodupPick [0] (by kernel_rfl)) (apartX.old k l M0 [0]) E).mono ?_)
 rintro e_ n ⟨rfl, v⟩
 have i := M0.callF' [0] [] (by kernel_rfl) v
 refine ⟨_, rfl, ?_⟩
 refine wR 1 [(0, pB c 0), (1, iv d), (5, iv h.1)] n (W_nil (N_then (G_seq (G_seq (G_region (wR 2 [(0, pB c 0), (1, iv d), (5, iv h.1), (11, .bool (decide (d > 200)))] n (W_nil (N_then ?_))))))))
 obtain ⟨j, C, B⟩ := gx_bind hm
 refine G_meet (fun a w' => Mem (idsOf [[(c, .cells ⟨[.slice f b.code.length g, iv b.at_, .int .u64 b.seed]⟩ 83 (0, 0))]]) w w' [[(c, .cells ⟨[.slice f b.code.length g, iv j.2.1, .int .u64 j.2.2]⟩ 83 (0, 0))]] ∧ Sat Try.f77.ntmps [(1, iv d), (5, iv j.1)] a) ?_ ?_
 ·have hm := C
  rcases gx_bif hm with ⟨t, hm⟩ | ⟨t, hm⟩
  ·refine gT t (G_region (wR 3 [(1, iv d), (5, iv h.1), (13, iv (w64 (h.1 * 256))), (14, pB c 0)] n ?_))
   obtain ⟨G, F, hm⟩ := gx_bind hm
   refine wC 90 #[pB c 0] ((c_s_l1Cur_next n (⟨b.code, h.2.1, h.2.2⟩ : l1Cur) f g (k.memX l i) c (i.hasPick [0]) (i.nodupPick [0] (by kernel_rfl)) (apartX.old k l i [0]) F).mono ?_)
   rintro e_ H ⟨rfl, x⟩
   have y := i.callF' [0] [] (by kernel_rfl) x
   refine ⟨_, rfl, ?_⟩
   refine wR 2 [(1, iv d), (5, iv (w64 ((w64 (h.1 * 256)) + G.1)))] H (W_nil ?_)
   obtain rfl := Option.some.inj hm
   exact N_meet fun a ha => ⟨y.pk [0], ha.s⟩
  refine gF t (G_skip ?_)
  obtain rfl := Option.some.inj hm
  exact N_meet fun a ha => ⟨i.pk [0], ha.s⟩
 intro I u ⟨z, A⟩
 refine N_use A ?_
 have hm := B
 refine N_then (G_seq (G_region (wR 2 [(17, iv j.1), (18, iv d)] u ?_)))
 obtain ⟨m, D, hm⟩ := gx_bind hm
 refine wV (iv m) u (E_rem _ _ _ _ j.1 d m rfl (by kernel_rfl) (by kernel_rfl) D) (wR 1 [(4, iv m)] u (W_nil (N_then (G_ret ?_))))
 obtain rfl := Option.some.inj hm
 exact N_ret [iv m] (rC RVs_nil) (⟨rfl, z.pk [0]⟩)
theorem c_s_l1Cur_among (w : World) (a : l1Cur) (c : Option Addr) (d : Nat) (l : rdS Gx.encU8 w a.code c d) (b : Nat) (f : List Int) (g : Option Addr) (h : Nat) (m : rdS Gx.encI w f g h) (hA : ∀ q ∈ List.flatten [[(b, .cells ⟨[.slice c a.code.length d, iv a.at_, .int .u64 a.seed]⟩ 83 (0, 0))]], w.heap[q.1]? = some q.2) (hN : (idsOf [[(b, .cells ⟨[.slice c a.code.length d, iv a.at_, .int .u64 a.seed]⟩ 83 (0, 0))]]).Nodup) (n : apartX (idsOf [[(b, .cells ⟨[.slice c a.code.length d, iv a.at_, .int .u64 a.seed]⟩ 83 (0, 0))]]) a.code c) (o : apartX (idsOf [[(b, .cells ⟨[.slice c a.code.length d, iv a.at_, .int .u64 a.seed]⟩ 83 (0, 0))]]) f g) {r : Int × Int × Int} (hm : M.s_l1Cur_among a f = some r) :
  Calls Try.prog 75 #[pB b 0, .slice g f.length h] w fun e w' => e = .returned (iv r.1) ∧ Mem (idsOf [[(b, .cells ⟨[.slice c a.code.length d, iv a.at_, .int .u64 a.seed]⟩ 83 (0, 0))]]) w w' [[(b, .cells ⟨[.slice c a.code.length d, iv r.2.1, .int .u64 r.2.2]⟩ 83 (0, 0))]] := by
 unfold M.s_l1Cur_among at hm
 refine cE Try.func75 ?_
 have M0 := Mem.start' w [[(b, .cells ⟨[.slice c a.code.length d, iv a.at_, .int .u64 a.seed]⟩ 83 (0, 0))]] hA hN
 refine G_seq (G_region (wR 1 [(0, pB b 0), (1, .slice g f.length h)] w (W_nil (N_then (G_seq (G_region (wR 4 [(5, .slice g f.length h), (6, pB b 0), (8, iv (f.length : Int))] w ?_)))))))
 obtain ⟨u, x, hm⟩ := gx_bind hm
 refine wC 77 #[pB b 0, iv (f.length : Int)] ((c_s_l1Cur_pick w a c d (l.memX n M0) b (f.length : Int) (M0.hasPick [0]) (M0.nodupPick [0] (by kernel_rfl)) (apartX.old l n M0 [0]) x).mono ?_)
 rintro e_ j ⟨rfl, v⟩
 have i := M0.callF' [0] [] (by kernel_rfl) v
 refine ⟨_, rfl, ?_⟩
 obtain ⟨k, t, hm⟩ := gx_bind hm
 refine wV (elemP g (u.1.toNat * 1)) j (eI (m.memX o i) rfl t) (wV (iv k) j (eE false 1 0 (u.1.toNat * 1) (m.memX o i) t) (wR 1 [(4, iv k)] j (W_nil (N_then (G_ret ?_)))))
 obtain rfl := Option.some.inj hm
 exact N_ret [iv k] (rC RVs_nil) (⟨rfl, i.pk [0]⟩)
theorem c_s_l1Cur_of (w : World) (a : l1Cur) (c : Option Addr) (d : Nat) (l : rdS Gx.encU8 w a.code c d) (b : Nat) (f : List ByteArray) (g : Option Addr) (h : Nat) (m : rdS Gx.encS w f g h) (hA : ∀ q ∈ List.flatten [[(b, .cells ⟨[.slice c a.code.length d, iv a.at_, .int .u64 a.seed]⟩ 83 (0, 0))]], w.heap[q.1]? = some q.2) (hN : (idsOf [[(b, .cells ⟨[.slice c a.code.length d, iv a.at_, .int .u64 a.seed]⟩ 83 (0, 0))]]).Nodup) (n : apartX (idsOf [[(b, .cells ⟨[.slice c a.code.length d, iv a.at_, .int .u64 a.seed]⟩ 83 (0, 0))]]) a.code c) (o : apartX (idsOf [[(b, .cells ⟨[.slice c a.code.length d, iv a.at_, .int .u64 a.seed]⟩ 83 (0, 0))]]) f g) {r : ByteArray × Int × Int} (hm : M.s_l1Cur_of a f = some r) :
  Calls Try.prog 76 #[pB b 0, .slice g f.length h] w fun e w' => e = .returned (.string r.1) ∧ Mem (idsOf [[(b, .cells ⟨[.slice c a.code.length d, iv a.at_, .int .u64 a.seed]⟩ 83 (0, 0))]]) w w' [[(b, .cells ⟨[.slice c a.code.length d, iv r.2.1, .int .u64 r.2.2]⟩ 83 (0, 0))]] := by
 unfold M.s_l1Cur_of at hm
 refine cE Try.func76 ?_
 have M0 := Mem.start' w [[(b, .cells ⟨[.slice c a.code.length d, iv a.at_, .int .u64 a.seed]⟩ 83 (0, 0))]] hA hN
 refine G_seq (G_region (wR 1 [(0, pB b 0), (1, .slice g f.length h)] w (W_nil (N_then (G_seq (G_region (wR 4 [(5, .slice g f.length h), (6, pB b 0), (8, iv (f.length : Int))] w ?_)))))))
 obtain ⟨u, x, hm⟩ := gx_bind hm
 refine wC 77 #[pB b 0, iv (f.length : Int)] ((c_s_l1Cur_pick w a c d (l.memX n M0) b (f.length : Int) (M0.hasPick [0]) (M0.nodupPick [0] (by kernel_rfl)) (apartX.old l n M0 [0]) x).mono ?_)
 rintro e_ j ⟨rfl, v⟩
 have i := M0.callF' [0] [] (by kernel_rfl) v
 refine ⟨_, rfl, ?_⟩
 obtain ⟨k, t, hm⟩ := gx_bind hm
 refine wV (elemP g (u.1.toNat * 1)) j (eI (m.memX o i) rfl t) (wV (.string k) j (eE false 1 0 (u.1.toNat * 1) (m.memX o i) t) (wR 1 [(4, .string k)] j (W_nil (N_then (G_ret ?_)))))
 obtain rfl := Option.some.inj hm
 exact N_ret [.string k] (rC RVs_nil) (⟨rfl, i.pk [0]⟩)
theorem c_s_l1Cur_event (w : World) (d : l1Cur) (j : Option Addr) (l : Nat) (m : rdS Gx.encU8 w d.code j l) (c : Nat) (u : Int) (hA : ∀ q ∈ List.flatten [[(c, .cells ⟨[.slice j d.code.length l, iv d.at_, .int .u64 d.seed]⟩ 83 (0, 0))]], w.heap[q.1]? = some q.2) (hN : (idsOf [[(c, .cells ⟨[.slice j d.code.length l, iv d.at_, .int .u64 d.seed]⟩ 83 (0, 0))]]).Nodup) (n : apartX (idsOf [[(c, .cells ⟨[.slice j d.code.length l, iv d.at_, .int .u64 d.seed]⟩ 83 (0, 0))]]) d.code j) {r : Event × Int × Int} (hm : M.s_l1Cur_event d u = some r) :
  Calls Try.prog 74 #[pB c 0, iv u] w fun e w' => e = .returned (.agg #[iv r.1.Tick, iv r.1.Guest, .string r.1.Kind, iv r.1.Value]) ∧ Mem (idsOf [[(c, .cells ⟨[.slice j d.code.length l, iv d.at_, .int .u64 d.seed]⟩ 83 (0, 0))]]) w w' [[(c, .cells ⟨[.slice j d.code.length l, iv r.2.1, .int .u64 r.2.2]⟩ 83 (0, 0))]] := by
 unfold M.s_l1Cur_event at hm
 refine cE Try.func74 ?_
 have M0 := Mem.start' w [[(c, .cells ⟨[.slice j d.code.length l, iv d.at_, .int .u64 d.seed]⟩ 83 (0, 0))]] hA hN
 refine G_seq (G_region (wN (.cells ⟨[iv 0, iv 0, .string ByteArray.empty, iv 0]⟩ 26 (0, 0)) M0 ?_))
 intro h ar I
 refine W_nil (N_then (G_seq (G_region (wR 2 [(0, pB c 0), (4, pB h 0), (6, iv u), (7, pB c 0)] ar ?_))))
 obtain ⟨x, bw, hm⟩ := gx_bind hm
 refine wC 77 #[pB c 0, iv 5] ((c_s_l1Cur_pick ar d j l (m.memX n I) c 5 (I.hasPick [0]) (I.nodupPick [0] (by kernel_rfl)) (apartX.old m n I [0]) bw).mono ?_)
 rintro e_ b5 ⟨rfl, av⟩
 have a5 := I.callF' [0] [1] (by kernel_rfl) av
 refine ⟨_, rfl, ?_⟩
 refine wR 1 [(0, pB c 0), (4, pB h 0), (6, iv u), (8, iv x.1), (9, pB c 0)] b5 (wL (E := Gx.encS) [(ByteArray.mk #[116, 114, 97, 112]), (ByteArray.mk #[116, 114, 97, 112]), (ByteArray.mk #[104, 97, 108, 116]), (ByteArray.mk #[105, 114, 113]), (ByteArray.mk #[119, 97, 107, 101]), (ByteArray.mk #[97]), (ByteArray.mk #[108, 111, 110, 103, 119, 111, 114, 100])] 7 [.string (ByteArray.mk #[116, 114, 97, 112]), .string (ByteArray.mk #[116, 114, 97, 112]), .string (ByteArray.mk #[104, 97, 108, 116]), .string (ByteArray.mk #[105, 114, 113]), .string (ByteArray.mk #[119, 97, 107, 101]), .string (ByteArray.mk #[97]), .string (ByteArray.mk #[108, 111, 110, 103, 119, 111, 114, 100])] 9 a5 ?_)
 intro al Z cn b6 af B
 obtain ⟨y, bx, hm⟩ := gx_bind hm
 refine wC 76 #[pB c 0, .slice al [(ByteArray.mk #[116, 114, 97, 112]), (ByteArray.mk #[116, 114, 97, 112]), (ByteArray.mk #[104, 97, 108, 116]), (ByteArray.mk #[105, 114, 113]), (ByteArray.mk #[119, 97, 107, 101]), (ByteArray.mk #[97]), (ByteArray.mk #[108, 111, 110, 103, 119, 111, 114, 100])].length Z] ((c_s_l1Cur_of b6 (⟨d.code, x.2.1, x.2.2⟩ : l1Cur) j l (m.memX n B) c [(ByteArray.mk #[116, 114, 97, 112]), (ByteArray.mk #[116, 114, 97, 112]), (ByteArray.mk #[104, 97, 108, 116]), (ByteArray.mk #[105, 114, 113]), (ByteArray.mk #[119, 97, 107, 101]), (ByteArray.mk #[97]), (ByteArray.mk #[108, 111, 110, 103, 119, 111, 114, 100])] al Z (af.rd B 2 (by kernel_rfl)) (B.hasPick [1]) (B.nodupPick [1] (by kernel_rfl)) (apartX.old m n B [1]) (apartX.own af B 2 (by kernel_rfl) [1] (by kernel_rfl)) bx).mono ?_)
 rintro e_ b7 ⟨rfl, aw⟩
 have a6 := B.callF' [1] [0, 2] (by kernel_rfl) aw
 refine ⟨_, rfl, ?_⟩
 refine wR 1 [(0, pB c 0), (4, pB h 0), (6, iv u), (8, iv x.1), (11, .string y.1), (12, pB c 0)] b7 (wL (E := Gx.encI) [0, 0, 1, 7, 255, 65535] 6 [iv 0, iv 0, iv 1, iv 7, iv 255, iv 65535] 3 a6 ?_)
 intro am aa co b8 ag C
 obtain ⟨z, bz, hm⟩ := gx_bind hm
 refine wC 75 #[pB c 0, .slice am [0, 0, 1, 7, 255, 65535].length aa] ((c_s_l1Cur_among b8 (⟨d.code, y.2.1, y.2.2⟩ : l1Cur) j l (m.memX n C) c [0, 0, 1, 7, 255, 65535] am aa (ag.rd C 3 (by kernel_rfl)) (C.hasPick [2]) (C.nodupPick [2] (by kernel_rfl)) (apartX.old m n C [2]) (apartX.own ag C 3 (by kernel_rfl) [2] (by kernel_rfl)) bz).mono ?_)
 rintro e_ b9 ⟨rfl, ax⟩
 have a7 := C.callF' [2] [0, 1, 3] (by kernel_rfl) ax
 refine ⟨_, rfl, ?_⟩
 refine wR 1 [(0, pB c 0), (4, pB h 0), (15, .agg #[iv u, iv x.1, .string y.1, iv z.1])] b9 (wN (.cells ⟨[iv 0, iv 0, .string ByteArray.empty, iv 0]⟩ 26 (0, 0)) a7 ?_)
 intro i cu a8
 refine wS true 4 0 (.agg #[iv u, iv x.1, .string y.1, iv z.1]) 4 [iv u, iv x.1, .string y.1, iv z.1] a8 rfl ?_
 intro au J
 refine W_nil (N_then (G_seq (G_seq (G_region (wR 1 [(0, pB c 0), (4, pB h 0), (5, pB i 0), (16, pB c 0)] au ?_)))))
 obtain ⟨t, b0, hm⟩ := gx_bind hm
 refine wC 77 #[pB c 0, iv 80] ((c_s_l1Cur_pick au (⟨d.code, z.2.1, z.2.2⟩ : l1Cur) j l (m.memX n J) c 80 (J.hasPick [3]) (J.nodupPick [3] (by kernel_rfl)) (apartX.old m n J [3]) b0).mono ?_)
 rintro e_ A ⟨rfl, ay⟩
 have K := J.callF' [3] [0, 1, 2, 4] (by kernel_rfl) ay
 refine ⟨_, rfl, ?_⟩
 refine W_nil (N_then (G_block (G_seq (G_region (wR 2 [(0, pB c 0), (4, pB h 0), (5, pB i 0), (17, iv t.1), (18, .bool (t.1 == 0))] A (W_nil (N_then ?_)))))))
 obtain ⟨f, bs, bo⟩ := gx_bind hm
 refine G_meet (fun a w' => Mem (idsOf [[(c, .cells ⟨[.slice j d.code.length l, iv d.at_, .int .u64 d.seed]⟩ 83 (0, 0))]]) w w' [[(h, .cells ⟨[iv 0, iv 0, .string ByteArray.empty, iv 0]⟩ 26 (0, 0))], [(i, .cells ⟨[iv f.2.2.1, iv f.2.2.2.1, .string f.2.2.2.2.1, iv f.2.2.2.2.2]⟩ 26 (0, 0))], [(c, .cells ⟨[.slice j d.code.length l, iv f.1, .int .u64 f.2.1]⟩ 83 (0, 0))]] ∧ Sat Try.f74.ntmps [(4, pB h 0), (5, pB i 0)] a) ?_ ?_
 ·have hm := bs
  rcases gx_bif hm with ⟨O, hm⟩ | ⟨O, hm⟩
  ·refine gT O (G_region (wR 1 [(4, pB h 0), (5, pB i 0), (20, pB c 0)] A (wL (E := Gx.encI) [(-1), 100000, 100001] 3 [iv (-1), iv 100000, iv 100001] 3 K ?_)))
   intro an ab cp ca ah D
   obtain ⟨T, b1, hm⟩ := gx_bind hm
   refine wC 75 #[pB c 0, .slice an [(-1), 100000, 100001].length ab] ((c_s_l1Cur_among ca (⟨d.code, t.2.1, t.2.2⟩ : l1Cur) j l (m.memX n D) c [(-1), 100000, 100001] an ab (ah.rd D 5 (by kernel_rfl)) (D.hasPick [4]) (D.nodupPick [4] (by kernel_rfl)) (apartX.old m n D [4]) (apartX.own ah D 5 (by kernel_rfl) [4] (by kernel_rfl)) b1).mono ?_)
   rintro e_ cb ⟨rfl, az⟩
   have a9 := D.callF' [4] [0, 1, 2, 3, 5] (by kernel_rfl) az
   refine ⟨_, rfl, ?_⟩
   refine wR 1 [(4, pB h 0), (5, pB i 0), (22, iv T.1), (23, pB i 0)] cb (wS false 1 0 (iv T.1) 3 [iv T.1, iv x.1, .string y.1, iv z.1] a9 rfl ?_)
   intro cv ba
   refine W_nil ?_
   obtain rfl := Option.some.inj hm
   exact N_meet fun a ha => ⟨ba.pk [0, 3, 5], ha.s⟩
  refine gF O (G_seq (G_region (wR 2 [(0, pB c 0), (4, pB h 0), (5, pB i 0), (17, iv t.1), (24, .bool (t.1 == 1))] A (W_nil (N_then ?_)))))
  obtain ⟨L, bt, bp⟩ := gx_bind hm
  refine G_meet (fun a w' => Mem (idsOf [[(c, .cells ⟨[.slice j d.code.length l, iv d.at_, .int .u64 d.seed]⟩ 83 (0, 0))]]) w w' [[(h, .cells ⟨[iv 0, iv 0, .string ByteArray.empty, iv 0]⟩ 26 (0, 0))], [(i, .cells ⟨[iv u, iv L.2.2.1, .string L.2.2.2.1, iv L.2.2.2.2]⟩ 26 (0, 0))], [(c, .cells ⟨[.slice j d.code.length l, iv L.1, .int .u64 L.2.1]⟩ 83 (0, 0))]] ∧ Sat Try.f74.ntmps [(4, pB h 0), (5, pB i 0)] a) ?_ ?_
  ·have hm := bt
   rcases gx_bif hm with ⟨P, hm⟩ | ⟨P, hm⟩
   ·refine gT P (G_region (wR 1 [(4, pB h 0), (5, pB i 0), (26, pB c 0)] A (wL (E := Gx.encI) [(-1), 5] 2 [iv (-1), iv 5] 3 K ?_)))
    intro ao ac cq cc ai F
    obtain ⟨U, b2, hm⟩ := gx_bind hm
    refine wC 75 #[pB c 0, .slice ao [(-1), 5].length ac] ((c_s_l1Cur_among cc (⟨d.code, t.2.1, t.2.2⟩ : l1Cur) j l (m.memX n F) c [(-1), 5] ao ac (ai.rd F 5 (by kernel_rfl)) (F.hasPick [4]) (F.nodupPick [4] (by kernel_rfl)) (apartX.old m n F [4]) (apartX.own ai F 5 (by kernel_rfl) [4] (by kernel_rfl)) b2).mono ?_)
    rintro e_ cd ⟨rfl, a0⟩
    have bb := F.callF' [4] [0, 1, 2, 3, 5] (by kernel_rfl) a0
    refine ⟨_, rfl, ?_⟩
    refine wR 1 [(4, pB h 0), (5, pB i 0), (28, iv U.1), (29, pB i 1)] cd (wS false 1 1 (iv U.1) 3 [iv u, iv U.1, .string y.1, iv z.1] bb rfl ?_)
    intro cw bc
    refine W_nil ?_
    obtain rfl := Option.some.inj hm
    exact N_meet fun a ha => ⟨bc.pk [0, 3, 5], ha.s⟩
   refine gF P (G_seq (G_region (wR 2 [(0, pB c 0), (4, pB h 0), (5, pB i 0), (17, iv t.1), (30, .bool (t.1 == 2))] A (W_nil (N_then ?_)))))
   obtain ⟨N, bu, bq⟩ := gx_bind hm
   refine G_meet (fun a w' => Mem (idsOf [[(c, .cells ⟨[.slice j d.code.length l, iv d.at_, .int .u64 d.seed]⟩ 83 (0, 0))]]) w w' [[(h, .cells ⟨[iv 0, iv 0, .string ByteArray.empty, iv 0]⟩ 26 (0, 0))], [(i, .cells ⟨[iv u, iv x.1, .string N.2.2.1, iv N.2.2.2]⟩ 26 (0, 0))], [(c, .cells ⟨[.slice j d.code.length l, iv N.1, .int .u64 N.2.1]⟩ 83 (0, 0))]] ∧ Sat Try.f74.ntmps [(4, pB h 0), (5, pB i 0)] a) ?_ ?_
   ·have hm := bu
    rcases gx_bif hm with ⟨Q, hm⟩ | ⟨Q, hm⟩
    ·refine gT Q (G_region (wR 1 [(4, pB h 0), (5, pB i 0), (32, pB c 0)] A (wL (E := Gx.encS) [(ByteArray.mk #[]), (ByteArray.mk #[65]), (ByteArray.mk #[110, 105, 110, 101, 99, 104, 97, 114, 115])] 3 [.string (ByteArray.mk #[]), .string (ByteArray.mk #[65]), .string (ByteArray.mk #[110, 105, 110, 101, 99, 104, 97, 114, 115])] 9 K ?_)))
     intro ap ad cr ce aj G
     obtain ⟨V, b3, hm⟩ := gx_bind hm
     refine wC 76 #[pB c 0, .slice ap [(ByteArray.mk #[]), (ByteArray.mk #[65]), (ByteArray.mk #[110, 105, 110, 101, 99, 104, 97, 114, 115])].length ad] ((c_s_l1Cur_of ce (⟨d.code, t.2.1, t.2.2⟩ : l1Cur) j l (m.memX n G) c [(ByteArray.mk #[]), (ByteArray.mk #[65]), (ByteArray.mk #[110, 105, 110, 101, 99, 104, 97, 114, 115])] ap ad (aj.rd G 5 (by kernel_rfl)) (G.hasPick [4]) (G.nodupPick [4] (by kernel_rfl)) (apartX.old m n G [4]) (apartX.own aj G 5 (by kernel_rfl) [4] (by kernel_rfl)) b3).mono ?_)
     rintro e_ cf ⟨rfl, a3⟩
     have bd := G.callF' [4] [0, 1, 2, 3, 5] (by kernel_rfl) a3
     refine ⟨_, rfl, ?_⟩
     refine wR 1 [(4, pB h 0), (5, pB i 0), (34, .string V.1), (35, pB i 2)] cf (wS false 1 2 (.string V.1) 3 [iv u, iv x.1, .string V.1, iv z.1] bd rfl ?_)
     intro cx be
     refine W_nil ?_
     obtain rfl := Option.some.inj hm
     exact N_meet fun a ha => ⟨be.pk [0, 3, 5], ha.s⟩
    refine gF Q (G_seq (G_region (wR 2 [(0, pB c 0), (4, pB h 0), (5, pB i 0), (36, .bool (t.1 == 3))] A (W_nil (N_then ?_)))))
    obtain ⟨S, bv, br⟩ := gx_bind hm
    refine G_meet (fun a w' => Mem (idsOf [[(c, .cells ⟨[.slice j d.code.length l, iv d.at_, .int .u64 d.seed]⟩ 83 (0, 0))]]) w w' [[(h, .cells ⟨[iv 0, iv 0, .string ByteArray.empty, iv 0]⟩ 26 (0, 0))], [(i, .cells ⟨[iv u, iv x.1, .string y.1, iv S.2.2]⟩ 26 (0, 0))], [(c, .cells ⟨[.slice j d.code.length l, iv S.1, .int .u64 S.2.1]⟩ 83 (0, 0))]] ∧ Sat Try.f74.ntmps [(4, pB h 0), (5, pB i 0)] a) ?_ ?_
    ·have hm := bv
     rcases gx_bif hm with ⟨R, hm⟩ | ⟨R, hm⟩
     ·refine gT R (G_region (wR 1 [(4, pB h 0), (5, pB i 0), (38, pB c 0)] A (wL (E := Gx.encI) [(-1), 65536] 2 [iv (-1), iv 65536] 3 K ?_)))
      intro aq ae ct cg ak H
      obtain ⟨W, b4, hm⟩ := gx_bind hm
      refine wC 75 #[pB c 0, .slice aq [(-1), 65536].length ae] ((c_s_l1Cur_among cg (⟨d.code, t.2.1, t.2.2⟩ : l1Cur) j l (m.memX n H) c [(-1), 65536] aq ae (ak.rd H 5 (by kernel_rfl)) (H.hasPick [4]) (H.nodupPick [4] (by kernel_rfl)) (apartX.old m n H [4]) (apartX.own ak H 5 (by kernel_rfl) [4] (by kernel_rfl)) b4).mono ?_)
      rintro e_ ch ⟨rfl, a4⟩
      have bf := H.callF' [4] [0, 1, 2, 3, 5] (by kernel_rfl) a4
      refine ⟨_, rfl, ?_⟩
      refine wR 1 [(4, pB h 0), (5, pB i 0), (40, iv W.1), (41, pB i 3)] ch (wS false 1 3 (iv W.1) 3 [iv u, iv x.1, .string y.1, iv W.1] bf rfl ?_)
      intro cy bg
      refine W_nil ?_
      obtain rfl := Option.some.inj hm
      exact N_meet fun a ha => ⟨bg.pk [0, 3, 5], ha.s⟩
     refine gF R (G_skip ?_)
     obtain rfl := Option.some.inj hm
     exact N_meet fun a ha => ⟨K.pk [0, 3, 4], ha.s⟩
    intro cj cz ⟨bh, bk⟩
    refine N_use bk ?_
    have hm := br
    obtain rfl := Option.some.inj hm
    exact N_meet fun a ha => ⟨bh.pk [0, 1, 2], ha.s⟩
   intro ck c0 ⟨bi, bl⟩
   refine N_use bl ?_
   have hm := bq
   obtain rfl := Option.some.inj hm
   exact N_meet fun a ha => ⟨bi.pk [0, 1, 2], ha.s⟩
  intro cl c1 ⟨bj, bm⟩
  refine N_use bm ?_
  have hm := bp
  obtain rfl := Option.some.inj hm
  exact N_meet fun a ha => ⟨bj.pk [0, 1, 2], ha.s⟩
 intro cm ci ⟨X, bn⟩
 refine N_use bn ?_
 have hm := bo
 refine N_block (N_then (G_seq (G_region (wV (.agg #[iv f.2.2.1, iv f.2.2.2.1, .string f.2.2.2.2.1, iv f.2.2.2.2.2]) ci (eL true 4 0 (X.blk 1 rfl)) (wS true 4 0 (.agg #[iv f.2.2.1, iv f.2.2.2.1, .string f.2.2.2.2.1, iv f.2.2.2.2.2]) 0 [iv f.2.2.1, iv f.2.2.2.1, .string f.2.2.2.2.1, iv f.2.2.2.2.2] X rfl ?_)))))
 intro c2 Y
 refine W_nil (N_then (G_ret ?_))
 obtain rfl := Option.some.inj hm
 exact N_ret [.agg #[iv f.2.2.1, iv f.2.2.2.1, .string f.2.2.2.2.1, iv f.2.2.2.2.2]] (RVs_cons (RV_cell (g := true) (k := 4) (b := h) (off := 0) (cs := [iv f.2.2.1, iv f.2.2.2.1, .string f.2.2.2.2.1, iv f.2.2.2.2.2]) (e := 26) (fr := (0, 0)) (v := .agg #[iv f.2.2.1, iv f.2.2.2.1, .string f.2.2.2.2.1, iv f.2.2.2.2.2]) (Y.blk 0 (b := h) (o := .cells ⟨[iv f.2.2.1, iv f.2.2.2.1, .string f.2.2.2.2.1, iv f.2.2.2.2.2]⟩ 26 (0, 0)) (by kernel_rfl)) (by kernel_rfl) (by kernel_rfl) (by kernel_rfl)) RVs_nil) (⟨rfl, Y.pk [2]⟩)
theorem c_s_l1Least (w : World) (a : Int) (b : Int) {r : Int} (hm : M.s_l1Least a b = some r) :
  Calls Try.prog 89 #[iv a, iv b] w fun e w' => e = .returned (iv r) ∧ Mem [] w w' [] := by
 unfold M.s_l1Least at hm
 refine cE Try.func89 ?_
 have M0 := Mem.refl [] w
 refine G_seq (G_region (wR 1 [(0, iv a), (1, iv b)] w (W_nil (N_then (G_seq (G_seq (G_region (wR 3 [(0, iv a), (1, iv b), (7, .bool (decide (a < b)))] w (W_nil (N_then ?_))))))))))
 rcases gx_bif hm with ⟨c, hm⟩ | ⟨c, hm⟩
 ·refine gT c (G_seq (G_region (wR 2 [(4, iv a)] w (W_nil (N_then (G_ret (N_then_ret ?_)))))))
  obtain rfl := Option.some.inj hm
  exact N_ret [iv a] (rC RVs_nil) (⟨rfl, M0.pk []⟩)
 refine gF c (G_skip (N_then (G_seq (G_region (wR 2 [(4, iv b)] w (W_nil (N_then (G_ret ?_))))))))
 obtain rfl := Option.some.inj hm
 exact N_ret [iv b] (rC RVs_nil) (⟨rfl, M0.pk []⟩)
theorem c_s_l1Cur_record22 (w : World) (c : l1Cur) (f : Option Addr) (g : Nat) (h : rdS Gx.encU8 w c.code f g) (b : Nat) (hA : ∀ q ∈ List.flatten [[(b, .cells ⟨[.slice f c.code.length g, iv c.at_, .int .u64 c.seed]⟩ 83 (0, 0))]], w.heap[q.1]? = some q.2) (hN : (idsOf [[(b, .cells ⟨[.slice f c.code.length g, iv c.at_, .int .u64 c.seed]⟩ 83 (0, 0))]]).Nodup) (i : apartX (idsOf [[(b, .cells ⟨[.slice f c.code.length g, iv c.at_, .int .u64 c.seed]⟩ 83 (0, 0))]]) c.code f) {r : (List Event) × Int × Int} (hm : M.s_l1Cur_record22 c = some r) :
  Calls Try.prog 73 #[pB b 0] w fun e w' => ∃ (a3 : Option Addr) (aq : Nat) (a9 : Seg), e = .returned (.slice a3 r.1.length aq) ∧ ownS encEvent r.1 a3 aq a9 ∧ Mem (idsOf [[(b, .cells ⟨[.slice f c.code.length g, iv c.at_, .int .u64 c.seed]⟩ 83 (0, 0))]]) w w' [[(b, .cells ⟨[.slice f c.code.length g, iv r.2.1, .int .u64 r.2.2]⟩ 83 (0, 0))], a9] := by
 unfold M.s_l1Cur_record22 at hm
 refine cE Try.func73 ?_
 have M0 := Mem.start' w [[(b, .cells ⟨[.slice f c.code.length g, iv c.at_, .int .u64 c.seed]⟩ 83 (0, 0))]] hA hN
 refine G_seq (G_region (wR 1 [(0, pB b 0)] w (W_nil (N_then (G_seq (G_region (wL (E := encEvent) ([] : List Event) 0 [] 26 M0 ?_)))))))
 intro G B c7 ba ch bp
 refine wR 1 [(0, pB b 0), (3, .slice G ([] : List Event).length B)] ba (W_nil (N_then (G_seq (G_region (wR 1 [(0, pB b 0), (3, .slice G ([] : List Event).length B), (7, pB b 0)] ba (wL (E := Gx.encI) [0, 3, 99990] 3 [iv 0, iv 3, iv 99990] 3 bp ?_))))))
 intro a4 ar du db ax t
 obtain ⟨O, cv, hm⟩ := gx_bind hm
 refine wC 75 #[pB b 0, .slice a4 [0, 3, 99990].length ar] ((c_s_l1Cur_among db c f g (h.memX i t) b [0, 3, 99990] a4 ar (ax.rd t 2 (by kernel_rfl)) (t.hasPick [0]) (t.nodupPick [0] (by kernel_rfl)) (apartX.old h i t [0]) (apartX.own ax t 2 (by kernel_rfl) [0] (by kernel_rfl)) cv).mono ?_)
 rintro e_ ak ⟨rfl, bh⟩
 have J := t.callF' [0] [1, 2] (by kernel_rfl) bh
 refine ⟨_, rfl, ?_⟩
 refine wR 1 [(0, pB b 0), (3, .slice G ([] : List Event).length B), (4, iv O.1)] ak (W_nil (N_then (G_seq (G_seq (G_region (wR 1 [(0, pB b 0), (3, .slice G ([] : List Event).length B), (4, iv O.1), (10, pB b 0)] ak ?_))))))
 obtain ⟨c5, cw, hm⟩ := gx_bind hm
 refine wC 77 #[pB b 0, iv 9] ((c_s_l1Cur_pick ak (⟨c.code, O.2.1, O.2.2⟩ : l1Cur) f g (h.memX i J) b 9 (J.hasPick [2]) (J.nodupPick [2] (by kernel_rfl)) (apartX.old h i J [2]) cw).mono ?_)
 rintro e_ dc ⟨rfl, bi⟩
 have bq := J.callF' [2] [0, 1] (by kernel_rfl) bi
 refine ⟨_, rfl, ?_⟩
 refine wR 1 [(0, pB b 0), (3, .slice G ([] : List Event).length B), (4, iv O.1), (5, iv c5.1)] dc (W_nil (N_then ?_))
 obtain ⟨k, c3, cf⟩ := gx_bind hm
 refine G_meet (fun a w' => ∃ (m : Option Addr), ∃ (l : Nat), ∃ (R : Seg), ownS encEvent k.1 m l R ∧ Mem (idsOf [[(b, .cells ⟨[.slice f c.code.length g, iv c.at_, .int .u64 c.seed]⟩ 83 (0, 0))]]) w w' [[(b, .cells ⟨[.slice f c.code.length g, iv k.2.1, .int .u64 k.2.2]⟩ 83 (0, 0))], R] ∧ Sat Try.f73.ntmps [(0, pB b 0), (3, .slice m k.1.length l)] a) ?_ ?_
 ·refine G_block (G_while (σ := List Event × Int × Int × Int × Int) (ρ := List Event × Int × Int) (fun d a w' => ∃ (y : Option Addr), ∃ (x : Nat), ∃ (Y : Seg), ownS encEvent d.1 y x Y ∧ Mem (idsOf [[(b, .cells ⟨[.slice f c.code.length g, iv c.at_, .int .u64 c.seed]⟩ 83 (0, 0))]]) w w' [[(b, .cells ⟨[.slice f c.code.length g, iv d.2.2.2.1, .int .u64 d.2.2.2.2]⟩ 83 (0, 0))], Y] ∧ Sat Try.f73.ntmps [(0, pB b 0), (3, .slice y d.1.length x), (4, iv d.2.1), (5, iv d.2.2.1)] a) c3 (fun a ha => ⟨G, B, c7, ch, bq.pk [2, 0], ha.s⟩) ?_)
  clear hm
  intro d d6 hm ct dh al ⟨y, x, Y, ay, A, b4⟩
  refine G_use b4 (G_seq (G_seq (G_region (wR 2 [(0, pB b 0), (3, .slice y d.1.length x), (4, iv d.2.1), (5, iv d.2.2.1), (13, .bool (decide (d.2.2.1 > 0)))] al (W_nil (N_then ?_))))))
  rcases gx_bif hm with ⟨ae, hm⟩ | ⟨ae, hm⟩
  ·refine gT ae (G_skip (N_then (G_seq (G_block (G_seq (G_region (wR 3 [(0, pB b 0), (3, .slice y d.1.length x), (4, iv d.2.1), (5, iv d.2.2.1), (16, .slice y d.1.length x), (17, pB b 0), (18, iv d.2.1)] al ?_)))))))
   obtain ⟨z, cx, hm⟩ := gx_bind hm
   refine wC 74 #[pB b 0, iv d.2.1] ((c_s_l1Cur_event al (⟨c.code, d.2.2.2.1, d.2.2.2.2⟩ : l1Cur) f g (h.memX i A) b d.2.1 (A.hasPick [0]) (A.nodupPick [0] (by kernel_rfl)) (apartX.old h i A [0]) cx).mono ?_)
   rintro e_ dz ⟨rfl, bj⟩
   have br := A.callF' [0] [1] (by kernel_rfl) bj
   refine ⟨_, rfl, ?_⟩
   refine wL (E := encEvent) [z.1] 1 [iv z.1.Tick, iv z.1.Guest, .string z.1.Kind, iv z.1.Value] 26 br ?_
   intro dr dn dv d0 ci am
   obtain ⟨N, ca, hm⟩ := gx_bind hm
   refine wA 40 [iv 0, iv 0, .string ByteArray.empty, iv 0] 0 am ay (ci.rd am 2 (by kernel_rfl)) ca ?_
   intro H C c8 bb cj bs
   refine wR 1 [(0, pB b 0), (3, .slice H N.length C), (4, iv d.2.1), (5, iv d.2.2.1)] bb (W_nil (N_then (G_region (wR 2 [(0, pB b 0), (3, .slice H N.length C), (4, iv d.2.1), (5, iv d.2.2.1), (22, iv d.2.1), (23, pB b 0)] bb (wL (E := Gx.encI) [0, 0, 1, 5, 30] 5 [iv 0, iv 0, iv 1, iv 5, iv 30] 3 bs ?_)))))
   intro a5 au dw dd az u
   obtain ⟨aj, cy, hm⟩ := gx_bind hm
   refine wC 75 #[pB b 0, .slice a5 [0, 0, 1, 5, 30].length au] ((c_s_l1Cur_among dd (⟨c.code, z.2.1, z.2.2⟩ : l1Cur) f g (h.memX i u) b [0, 0, 1, 5, 30] a5 au (az.rd u 3 (by kernel_rfl)) (u.hasPick [1]) (u.nodupPick [1] (by kernel_rfl)) (apartX.old h i u [1]) (apartX.own az u 3 (by kernel_rfl) [1] (by kernel_rfl)) cy).mono ?_)
   rintro e_ bc ⟨rfl, bk⟩
   have bt := u.callF' [1] [0, 2, 3] (by kernel_rfl) bk
   refine ⟨_, rfl, ?_⟩
   refine wR 1 [(0, pB b 0), (3, .slice H N.length C), (4, iv d.2.1), (5, iv d.2.2.1), (26, iv (w64 (d.2.1 + aj.1)))] bc ?_
   obtain ⟨a8, cz, hm⟩ := gx_bind hm
   refine wC 89 #[iv 100000, iv (w64 (d.2.1 + aj.1))] ((c_s_l1Least bc 100000 (w64 (d.2.1 + aj.1)) cz).mono ?_)
   rintro e_ bd ⟨rfl, bl⟩
   have bu := bt.call0 bl
   refine ⟨_, rfl, ?_⟩
   refine wR 1 [(0, pB b 0), (3, .slice H N.length C), (4, iv a8), (5, iv d.2.2.1)] bd (W_nil (N_block (N_then (G_region (wR 3 [(0, pB b 0), (3, .slice H N.length C), (4, iv a8), (5, iv (w64 (d.2.2.1 - 1)))] bd (W_nil ?_))))))
   obtain rfl := Option.some.inj hm
   exact N_loop fun a ha => ⟨_, rfl, H, C, c8, cj, bu.pk [3, 0], ha.s⟩
  refine gF ae (G_exit (N_then_exit (N_then_exit (N_block_eq ?_))))
  obtain rfl := Option.some.inj hm
  obtain rfl := ct _ rfl
  exact N_meet fun a ha => ⟨y, x, Y, ay, A.pk [0, 1], ha.s⟩
 intro di be ⟨m, l, R, ai, K, b5⟩
 refine N_use b5 ?_
 have hm := cf
 refine N_then (G_seq (G_seq (G_region (wR 1 [(0, pB b 0), (3, .slice m k.1.length l), (28, pB b 0)] be ?_))))
 obtain ⟨P, c0, hm⟩ := gx_bind hm
 refine wC 77 #[pB b 0, iv 30] ((c_s_l1Cur_pick be (⟨c.code, k.2.1, k.2.2⟩ : l1Cur) f g (h.memX i K) b 30 (K.hasPick [0]) (K.nodupPick [0] (by kernel_rfl)) (apartX.old h i K [0]) c0).mono ?_)
 rintro e_ ad ⟨rfl, bm⟩
 have v := K.callF' [0] [1] (by kernel_rfl) bm
 refine ⟨_, rfl, ?_⟩
 refine W_nil (N_then (G_block (G_seq (G_region (wR 2 [(0, pB b 0), (3, .slice m k.1.length l), (29, iv P.1), (30, .bool (P.1 == 0))] ad (W_nil (N_then ?_)))))))
 obtain ⟨F, ck, cd⟩ := gx_bind hm
 refine G_meet (fun a w' => ∃ (I : Option Addr), ∃ (D : Nat), ∃ (Z : Seg), ownS encEvent F.1 I D Z ∧ Mem (idsOf [[(b, .cells ⟨[.slice f c.code.length g, iv c.at_, .int .u64 c.seed]⟩ 83 (0, 0))]]) w w' [[(b, .cells ⟨[.slice f c.code.length g, iv F.2.1, .int .u64 F.2.2]⟩ 83 (0, 0))], Z] ∧ Sat Try.f73.ntmps [(3, .slice I F.1.length D)] a) ?_ ?_
 ·have hm := ck
  rcases gx_bif hm with ⟨af, hm⟩ | ⟨af, hm⟩
  ·refine gT af (G_region (wR 2 [(3, .slice m k.1.length l), (32, .slice m k.1.length l), (33, pB b 0)] ad ?_))
   obtain ⟨Q, c1, hm⟩ := gx_bind hm
   refine wC 74 #[pB b 0, iv 1] ((c_s_l1Cur_event ad (⟨c.code, P.2.1, P.2.2⟩ : l1Cur) f g (h.memX i v) b 1 (v.hasPick [1]) (v.nodupPick [1] (by kernel_rfl)) (apartX.old h i v [1]) c1).mono ?_)
   rintro e_ d1 ⟨rfl, bn⟩
   have bv := v.callF' [1] [0] (by kernel_rfl) bn
   refine ⟨_, rfl, ?_⟩
   refine wL (E := encEvent) [Q.1] 1 [iv Q.1.Tick, iv Q.1.Guest, .string Q.1.Kind, iv Q.1.Value] 26 bv ?_
   intro ds dp dx d2 cm an
   obtain ⟨b2, cb, hm⟩ := gx_bind hm
   refine wA 40 [iv 0, iv 0, .string ByteArray.empty, iv 0] 0 an ai (cm.rd an 2 (by kernel_rfl)) cb ?_
   intro a6 av c9 de cn bw
   refine wR 1 [(3, .slice a6 b2.length av)] de (W_nil ?_)
   obtain rfl := Option.some.inj hm
   exact N_meet fun a ha => ⟨a6, av, c9, cn, bw.pk [1, 0], ha.s⟩
  refine gF af (G_seq (G_region (wR 2 [(0, pB b 0), (3, .slice m k.1.length l), (37, .bool (P.1 == 1))] ad (W_nil (N_then ?_)))))
  obtain ⟨U, co, ce⟩ := gx_bind hm
  refine G_meet (fun a w' => ∃ (W : Option Addr), ∃ (S : Nat), ∃ (aa : Seg), ownS encEvent U.1 W S aa ∧ Mem (idsOf [[(b, .cells ⟨[.slice f c.code.length g, iv c.at_, .int .u64 c.seed]⟩ 83 (0, 0))]]) w w' [[(b, .cells ⟨[.slice f c.code.length g, iv U.2.1, .int .u64 U.2.2]⟩ 83 (0, 0))], aa] ∧ Sat Try.f73.ntmps [(3, .slice W U.1.length S)] a) ?_ ?_
  ·have hm := co
   rcases gx_bif hm with ⟨ag, hm⟩ | ⟨ag, hm⟩
   ·refine gT ag ?_
    obtain ⟨V, c4, cg⟩ := gx_bind hm
    refine G_meet (fun a w' => ∃ (X : Option Addr), ∃ (T : Nat), ∃ (ac : Seg), ownS encEvent V.1 X T ac ∧ Mem (idsOf [[(b, .cells ⟨[.slice f c.code.length g, iv c.at_, .int .u64 c.seed]⟩ 83 (0, 0))]]) w w' [[(b, .cells ⟨[.slice f c.code.length g, iv V.2.1, .int .u64 V.2.2]⟩ 83 (0, 0))], ac] ∧ Sat Try.f73.ntmps [(3, .slice X V.1.length T)] a) ?_ ?_
    ·refine G_block (G_while (σ := List Event × Int × Int) (ρ := List Event × Int × Int) (fun j a w' => ∃ (o : Option Addr), ∃ (n : Nat), ∃ (ab : Seg), ownS encEvent j.1 o n ab ∧ Mem (idsOf [[(b, .cells ⟨[.slice f c.code.length g, iv c.at_, .int .u64 c.seed]⟩ 83 (0, 0))]]) w w' [[(b, .cells ⟨[.slice f c.code.length g, iv j.2.1, .int .u64 j.2.2]⟩ 83 (0, 0))], ab] ∧ Sat Try.f73.ntmps [(0, pB b 0), (3, .slice o j.1.length n)] a) c4 (fun a ha => ⟨m, l, R, ai, v.pk [1, 0], ha.s⟩) ?_)
     clear hm
     intro j d7 hm cu dj bf ⟨o, n, ab, a0, L, b6⟩
     refine G_use b6 (G_seq (G_seq (G_region (wR 3 [(0, pB b 0), (3, .slice o j.1.length n), (40, iv (j.1.length : Int)), (41, pB b 0)] bf ?_))))
     obtain ⟨c6, c2, hm⟩ := gx_bind hm
     refine wC 77 #[pB b 0, iv 2] ((c_s_l1Cur_pick bf (⟨c.code, j.2.1, j.2.2⟩ : l1Cur) f g (h.memX i L) b 2 (L.hasPick [0]) (L.nodupPick [0] (by kernel_rfl)) (apartX.old h i L [0]) c2).mono ?_)
     rintro e_ bg ⟨rfl, bo⟩
     have ao := L.callF' [0] [1] (by kernel_rfl) bo
     refine ⟨_, rfl, ?_⟩
     refine wR 2 [(0, pB b 0), (3, .slice o j.1.length n), (44, .bool (decide ((j.1.length : Int) < (w64 (30 + c6.1)))))] bg (W_nil (N_then ?_))
     rcases gx_bif hm with ⟨ah, hm⟩ | ⟨ah, hm⟩
     ·refine gT ah (G_skip (N_then (G_block (G_region (wR 2 [(0, pB b 0), (3, .slice o j.1.length n), (45, .slice o j.1.length n), (46, .agg #[iv 100000, iv 0, .string (ByteArray.mk #[120]), iv 0])] bg (wL (E := encEvent) [(⟨100000, 0, (ByteArray.mk #[120]), 0⟩ : Event)] 1 [iv 100000, iv 0, .string (ByteArray.mk #[120]), iv 0] 26 ao ?_))))))
      intro dt dq dy d3 cr ap
      obtain ⟨b3, cc, hm⟩ := gx_bind hm
      refine wA 40 [iv 0, iv 0, .string ByteArray.empty, iv 0] 0 ap a0 (cr.rd ap 2 (by kernel_rfl)) cc ?_
      intro a7 aw da df cs bx
      refine wR 1 [(0, pB b 0), (3, .slice a7 b3.length aw)] df (W_nil (N_block ?_))
      obtain rfl := Option.some.inj hm
      exact N_loop fun a ha => ⟨_, rfl, a7, aw, da, cs, bx.pk [1, 0], ha.s⟩
     refine gF ah (G_exit (N_then_exit (N_then_exit (N_block_eq ?_))))
     obtain rfl := Option.some.inj hm
     obtain rfl := cu _ rfl
     exact N_meet fun a ha => ⟨o, n, ab, a0, ao.pk [1, 0], ha.s⟩
    intro dk d4 ⟨X, T, ac, cq, bz, b7⟩
    refine N_use b7 ?_
    have hm := cg
    obtain rfl := Option.some.inj hm
    exact N_meet fun a ha => ⟨X, T, ac, cq, bz.pk [0, 1], ha.s⟩
   refine gF ag (G_skip ?_)
   obtain rfl := Option.some.inj hm
   exact N_meet fun a ha => ⟨m, l, R, ai, v.pk [1, 0], ha.s⟩
  intro dl d5 ⟨W, S, aa, cp, b0, b8⟩
  refine N_use b8 ?_
  have hm := ce
  obtain rfl := Option.some.inj hm
  exact N_meet fun a ha => ⟨W, S, aa, cp, b0.pk [0, 1], ha.s⟩
 intro dm dg ⟨I, D, Z, cl, b1, b9⟩
 refine N_use b9 ?_
 have hm := cd
 refine N_block (N_then (G_seq (G_region (wR 2 [(2, .slice I F.1.length D)] dg (W_nil (N_then (G_ret ?_)))))))
 obtain rfl := Option.some.inj hm
 exact N_ret [.slice I F.1.length D] (rC RVs_nil) (⟨I, D, Z, rfl, cl, b1.pk [0, 1]⟩)
theorem c_s_DrawMergeRecords (w : World) (b : List Int) (d : Option Addr) (c : Nat) (j : rdS Gx.encU8 w b d c) {r : (List Event) × (List Event)} (hm : M.s_DrawMergeRecords b = some r) :
  Calls Try.prog 45 #[.slice d b.length c] w fun e w' => ∃ (t : Option Addr) (o : Nat) (x : Seg), ∃ (u : Option Addr) (q : Nat) (y : Seg), e = .returned (.tuple #[.slice t r.1.length o, .slice u r.2.length q]) ∧ ownS encEvent r.1 t o x ∧ ownS encEvent r.2 u q y ∧ Mem [] w w' [x, y] := by
 unfold M.s_DrawMergeRecords at hm
 refine cE Try.func45 ?_
 have M0 := Mem.refl [] w
 refine G_seq (G_region (wR 2 [(0, .slice d b.length c)] w (W_nil (N_then (G_seq (G_region (wR 2 [(6, .agg #[.slice d b.length c, iv 0, .int .u64 0])] w (wN (.cells ⟨[.slice d b.length c, iv 0, .int .u64 0]⟩ 83 (0, 0)) M0 ?_))))))))
 intro a n f
 refine wR 1 [(4, pB a 0)] n (W_nil (N_then (G_seq (G_region (wR 1 [(4, pB a 0), (8, pB a 0)] n ?_)))))
 obtain ⟨h, F, hm⟩ := gx_bind hm
 refine wC 73 #[pB a 0] ((c_s_l1Cur_record22 n (⟨b, 0, 0⟩ : l1Cur) d c (j.mem0 f) a (f.hasPick [0]) (f.nodupPick [0] (by kernel_rfl)) (apartX.old0 j f [0]) F).mono ?_)
 rintro e_ z ⟨k, i, H, rfl, D, A⟩
 have g := f.callF' [0] [] (by kernel_rfl) A
 refine ⟨_, rfl, ?_⟩
 refine wR 1 [(9, .slice k h.1.length i), (10, pB a 0)] z ?_
 obtain ⟨v, G, hm⟩ := gx_bind hm
 refine wC 73 #[pB a 0] ((c_s_l1Cur_record22 z (⟨b, h.2.1, h.2.2⟩ : l1Cur) d c (j.mem0 g) a (g.hasPick [0]) (g.nodupPick [0] (by kernel_rfl)) (apartX.old0 j g [0]) G).mono ?_)
 rintro e_ J ⟨m, l, I, rfl, E, B⟩
 have C := g.callF' [0] [1] (by kernel_rfl) B
 refine ⟨_, rfl, ?_⟩
 refine wR 2 [(2, .slice k h.1.length i), (3, .slice m v.1.length l)] J (W_nil (N_then (G_ret ?_)))
 obtain rfl := Option.some.inj hm
 exact N_ret [.slice k h.1.length i, .slice m v.1.length l] (rC (rC RVs_nil)) (⟨k, i, H, m, l, I, rfl, D, E, C.pk [0, 2]⟩)
theorem c_l_rEvents (w : World) (f : List Event) (h : Option Addr) (j : Nat) (t : rdS encEvent w f h j) (g : List Event) (i : Option Addr) (k : Nat) (u : rdS encEvent w g i k) {r : Bool} (hm : M.l_rEvents f g = some r) :
  Calls Try.prog 46 #[.slice h f.length j, .slice i g.length k] w fun e w' => e = .returned (.bool r) ∧ Mem [] w w' [] := by
 unfold M.l_rEvents at hm
 refine cE Try.func46 ?_
 have M0 := Mem.refl [] w
 refine G_seq (G_region (wR 1 [(0, .slice h f.length j), (1, .slice i g.length k)] w (W_nil (N_then (G_seq (G_seq (G_region (wR 5 [(0, .slice h f.length j), (1, .slice i g.length k), (10, .bool ((f.length : Int) != (g.length : Int)))] w (W_nil (N_then ?_))))))))))
 rcases gx_bif hm with ⟨l, hm⟩ | ⟨l, hm⟩
 ·refine gT l (G_seq (G_region (wR 1 [(4, .bool false)] w (W_nil (N_then (G_ret (N_then_ret ?_)))))))
  obtain rfl := Option.some.inj hm
  exact N_ret [.bool false] (rC RVs_nil) (⟨rfl, M0.pk []⟩)
 refine gF l (G_skip (N_then (G_seq (G_seq (G_region (wR 1 [(0, .slice h f.length j), (1, .slice i g.length k), (5, iv 0)] w (W_nil (N_then ?_))))))))
 obtain ⟨G, F, v⟩ := gx_bind hm
 refine G_meet (fun a w' => ∃ (A : Unit), G = .inl A ∧ Mem [] w w' [] ∧ Sat Try.f46.ntmps [] a) ?_ ?_
 ·refine G_block (G_while (σ := Int) (ρ := (Unit) ⊕ (Bool)) (fun d a w' => Mem [] w w' [] ∧ Sat Try.f46.ntmps [(0, .slice h f.length j), (1, .slice i g.length k), (5, iv d)] a) F (fun a ha => ⟨M0.pk [], ha.s⟩) ?_)
  clear hm
  intro d L hm x J H ⟨o, D⟩
  refine G_use D (G_seq (G_seq (G_region (wR 4 [(0, .slice h f.length j), (1, .slice i g.length k), (5, iv d), (14, .bool (decide (d < (f.length : Int))))] H (W_nil (N_then ?_))))))
  rcases gx_bif hm with ⟨m, hm⟩ | ⟨m, hm⟩
  ·refine gT m (G_skip (N_then (G_seq (G_block (G_seq (G_quiet (by kernel_rfl) (by kernel_rfl) o (zR [.slice h f.length j, iv d] [(0, .slice h f.length j), (1, .slice i g.length k), (5, iv d), (17, .slice h f.length j), (18, iv d)] ?_)))))))
   obtain ⟨b, y, hm⟩ := gx_bind hm
   refine zV (elemP h (d.toNat * 4)) (fun w_ M_ => (eI (t.mem0 M_) rfl y)) (zV (.agg #[iv b.Tick, iv b.Guest, .string b.Kind, iv b.Value]) (fun w_ M_ => (eE true 4 0 (d.toNat * 4) (t.mem0 M_) y)) (zR [.slice i g.length k, iv d] [(0, .slice h f.length j), (1, .slice i g.length k), (5, iv d), (20, .agg #[iv b.Tick, iv b.Guest, .string b.Kind, iv b.Value]), (21, .slice i g.length k), (22, iv d)] ?_))
   obtain ⟨c, z, hm⟩ := gx_bind hm
   refine zV (elemP i (d.toNat * 4)) (fun w_ M_ => (eI (u.mem0 M_) rfl z)) (zV (.agg #[iv c.Tick, iv c.Guest, .string c.Kind, iv c.Value]) (fun w_ M_ => (eE true 4 0 (d.toNat * 4) (u.mem0 M_) z)) (zV (.bool (!((b.Tick == c.Tick) && ((b.Guest == c.Guest) && ((b.Kind.toList == c.Kind.toList) && ((b.Value == c.Value) && true)))))) (fun w_ M_ => (E_neqAgg _ _ _ _ [iv b.Tick, iv b.Guest, .string b.Kind, iv b.Value] [iv c.Tick, iv c.Guest, .string c.Kind, iv c.Value] ((b.Tick == c.Tick) && ((b.Guest == c.Guest) && ((b.Kind.toList == c.Kind.toList) && ((b.Value == c.Value) && true)))) rfl (by kernel_rfl) (by kernel_rfl) (by kernel_rfl) (by kernel_rfl) (by kernel_rfl) (by kernel_rfl))) (Z_end fun B q => (N_then ?_))))
   rcases gx_bif hm with ⟨n, hm⟩ | ⟨n, hm⟩
   ·refine gT n (G_seq (G_region (wR 1 [(4, .bool false)] B (W_nil (N_then (G_ret (N_block_ret (N_then_ret (N_then_ret ?_)))))))))
    obtain rfl := Option.some.inj hm
    obtain rfl := x _ rfl
    have hm := v; simp only [Sum.elim_inr] at hm
    refine N_block_ret (N_meet_ret (N_then_ret ?_))
    obtain rfl := Option.some.inj hm
    exact N_ret [.bool false] (rC RVs_nil) (⟨rfl, q.pk []⟩)
   refine gF n (G_skip (N_block (N_then (G_region (wR 3 [(0, .slice h f.length j), (1, .slice i g.length k), (5, iv (w64 (d + 1)))] B (W_nil ?_))))))
   obtain rfl := Option.some.inj hm
   exact N_loop fun a ha => ⟨_, rfl, q.pk [], ha.s⟩
  refine gF m (G_exit (N_then_exit (N_then_exit (N_block_eq ?_))))
  obtain rfl := Option.some.inj hm
  obtain rfl := x _ rfl
  exact N_meet fun a ha => ⟨_, rfl, o.pk [], ha.s⟩
 intro K I ⟨A, hout_, C, E⟩
 refine N_use E ?_
 subst hout_
 have hm := v; simp only [Sum.elim_inl] at hm
 refine N_then (G_seq (G_region (wR 1 [(4, .bool true)] I (W_nil (N_then (G_ret ?_))))))
 obtain rfl := Option.some.inj hm
 exact N_ret [.bool true] (rC RVs_nil) (⟨rfl, C.pk []⟩)
theorem c_s_DrawAddEvent (w : World) (d : List Int) (i : Option Addr) (h : Nat) (l : rdS Gx.encU8 w d i h) {r : (List Event) × Event} (hm : M.s_DrawAddEvent d = some r) :
  Calls Try.prog 47 #[.slice i d.length h] w fun e w' => ∃ (D : Option Addr) (A : Nat) (G : Seg), e = .returned (.tuple #[.slice D r.1.length A, .agg #[iv r.2.Tick, iv r.2.Guest, .string r.2.Kind, iv r.2.Value]]) ∧ ownS encEvent r.1 D A G ∧ Mem [] w w' [G] := by
 unfold M.s_DrawAddEvent at hm
 refine cE Try.func47 ?_
 have M0 := Mem.refl [] w
 refine G_seq (G_region (wR 1 [(0, .slice i d.length h)] w (wN (.cells ⟨[iv 0, iv 0, .string ByteArray.empty, iv 0]⟩ 26 (0, 0)) M0 ?_)))
 intro f U L
 refine W_nil (N_then (G_seq (G_region (wR 2 [(3, pB f 0), (7, .agg #[.slice i d.length h, iv 0, .int .u64 0])] U (wN (.cells ⟨[.slice i d.length h, iv 0, .int .u64 0]⟩ 83 (0, 0)) L ?_)))))
 intro c y n
 refine wR 1 [(3, pB f 0), (4, pB c 0)] y (W_nil (N_then (G_seq (G_region (wR 1 [(3, pB f 0), (4, pB c 0), (9, pB c 0)] y ?_)))))
 obtain ⟨m, Q, hm⟩ := gx_bind hm
 refine wC 73 #[pB c 0] ((c_s_l1Cur_record22 y (⟨d, 0, 0⟩ : l1Cur) i h (l.mem0 n) c (n.hasPick [1]) (n.nodupPick [1] (by kernel_rfl)) (apartX.old0 l n [1]) Q).mono ?_)
 rintro e_ H ⟨u, t, T, rfl, P, I⟩
 have N := n.callF' [1] [0] (by kernel_rfl) I
 refine ⟨_, rfl, ?_⟩
 refine wR 1 [(3, pB f 0), (4, pB c 0), (5, .slice u m.1.length t)] H (W_nil (N_then (G_seq (G_region (wR 3 [(3, pB f 0), (11, .slice u m.1.length t), (12, pB c 0), (13, pB c 0)] H (wL (E := Gx.encI) [0, 3, 4, 10, 100000] 5 [iv 0, iv 3, iv 4, iv 10, iv 100000] 3 N ?_))))))
 intro F B Y V C j
 obtain ⟨x, R, hm⟩ := gx_bind hm
 refine wC 75 #[pB c 0, .slice F [0, 3, 4, 10, 100000].length B] ((c_s_l1Cur_among V (⟨d, m.2.1, m.2.2⟩ : l1Cur) i h (l.mem0 j) c [0, 3, 4, 10, 100000] F B (C.rd j 3 (by kernel_rfl)) (j.hasPick [1]) (j.nodupPick [1] (by kernel_rfl)) (apartX.old0 l j [1]) (apartX.own C j 3 (by kernel_rfl) [1] (by kernel_rfl)) R).mono ?_)
 rintro e_ W ⟨rfl, J⟩
 have q := j.callF' [1] [0, 2, 3] (by kernel_rfl) J
 refine ⟨_, rfl, ?_⟩
 obtain ⟨a, S, hm⟩ := gx_bind hm
 refine wC 74 #[pB c 0, iv x.1] ((c_s_l1Cur_event W (⟨d, x.2.1, x.2.2⟩ : l1Cur) i h (l.mem0 q) c x.1 (q.hasPick [3]) (q.nodupPick [3] (by kernel_rfl)) (apartX.old0 l q [3]) S).mono ?_)
 rintro e_ X ⟨rfl, K⟩
 have O := q.callF' [3] [0, 1, 2] (by kernel_rfl) K
 refine ⟨_, rfl, ?_⟩
 refine wR 1 [(2, .slice u m.1.length t), (3, pB f 0), (16, .agg #[iv a.1.Tick, iv a.1.Guest, .string a.1.Kind, iv a.1.Value])] X (wS true 4 0 (.agg #[iv a.1.Tick, iv a.1.Guest, .string a.1.Kind, iv a.1.Value]) 0 [iv a.1.Tick, iv a.1.Guest, .string a.1.Kind, iv a.1.Value] O rfl ?_)
 intro Z z
 refine W_nil (N_then (G_ret ?_))
 obtain rfl := Option.some.inj hm
 exact N_ret [.slice u m.1.length t, .agg #[iv a.1.Tick, iv a.1.Guest, .string a.1.Kind, iv a.1.Value]] (rC (RVs_cons (RV_cell (g := true) (k := 4) (b := f) (off := 0) (cs := [iv a.1.Tick, iv a.1.Guest, .string a.1.Kind, iv a.1.Value]) (e := 26) (fr := (0, 0)) (v := .agg #[iv a.1.Tick, iv a.1.Guest, .string a.1.Kind, iv a.1.Value]) (z.blk 0 (b := f) (o := .cells ⟨[iv a.1.Tick, iv a.1.Guest, .string a.1.Kind, iv a.1.Value]⟩ 26 (0, 0)) (by kernel_rfl)) (by kernel_rfl) (by kernel_rfl) (by kernel_rfl)) RVs_nil)) (⟨u, t, T, rfl, P, z.pk [1]⟩)
theorem c_s_DrawEventsWithin (w : World) (c : List Int) (f : Option Addr) (d : Nat) (l : rdS Gx.encU8 w c f d) {r : (List Event) × Int × Int} (hm : M.s_DrawEventsWithin c = some r) :
  Calls Try.prog 48 #[.slice f c.length d] w fun e w' => ∃ (x : Option Addr) (o : Nat) (B : Seg), e = .returned (.tuple #[.slice x r.1.length o, iv r.2.1, iv r.2.2]) ∧ ownS encEvent r.1 x o B ∧ Mem [] w w' [B] := by
 unfold M.s_DrawEventsWithin at hm
 refine cE Try.func48 ?_
 have M0 := Mem.refl [] w
 refine G_seq (G_region (wR 3 [(0, .slice f c.length d)] w (W_nil (N_then (G_seq (G_region (wR 2 [(9, .agg #[.slice f c.length d, iv 0, .int .u64 0])] w (wN (.cells ⟨[.slice f c.length d, iv 0, .int .u64 0]⟩ 83 (0, 0)) M0 ?_))))))))
 intro a n m
 refine wR 1 [(5, pB a 0)] n (W_nil (N_then (G_seq (G_region (wR 1 [(5, pB a 0), (11, pB a 0)] n ?_)))))
 obtain ⟨g, N, hm⟩ := gx_bind hm
 refine wC 73 #[pB a 0] ((c_s_l1Cur_record22 n (⟨c, 0, 0⟩ : l1Cur) f d (l.mem0 m) a (m.hasPick [0]) (m.nodupPick [0] (by kernel_rfl)) (apartX.old0 l m [0]) N).mono ?_)
 rintro e_ C ⟨k, j, Q, rfl, L, F⟩
 have I := m.callF' [0] [] (by kernel_rfl) F
 refine ⟨_, rfl, ?_⟩
 refine wR 1 [(5, pB a 0), (6, .slice k g.1.length j)] C (W_nil (N_then (G_seq (G_region (wR 1 [(5, pB a 0), (6, .slice k g.1.length j), (13, pB a 0)] C (wL (E := Gx.encI) [0, 3, 10, 99990, (-1)] 5 [iv 0, iv 3, iv 10, iv 99990, iv (-1)] 3 I ?_))))))
 intro y q U R u h
 obtain ⟨b, O, hm⟩ := gx_bind hm
 refine wC 75 #[pB a 0, .slice y [0, 3, 10, 99990, (-1)].length q] ((c_s_l1Cur_among R (⟨c, g.2.1, g.2.2⟩ : l1Cur) f d (l.mem0 h) a [0, 3, 10, 99990, (-1)] y q (u.rd h 2 (by kernel_rfl)) (h.hasPick [0]) (h.nodupPick [0] (by kernel_rfl)) (apartX.old0 l h [0]) (apartX.own u h 2 (by kernel_rfl) [0] (by kernel_rfl)) O).mono ?_)
 rintro e_ D ⟨rfl, G⟩
 have J := h.callF' [0] [1, 2] (by kernel_rfl) G
 refine ⟨_, rfl, ?_⟩
 refine wR 1 [(5, pB a 0), (6, .slice k g.1.length j), (7, iv b.1)] D (W_nil (N_then (G_seq (G_region (wR 4 [(16, .slice k g.1.length j), (17, iv b.1), (18, iv b.1), (19, pB a 0)] D (wL (E := Gx.encI) [0, 1, 10, 100, (-1), 100000] 6 [iv 0, iv 1, iv 10, iv 100, iv (-1), iv 100000] 3 J ?_))))))
 intro z t V S v i
 obtain ⟨A, P, hm⟩ := gx_bind hm
 refine wC 75 #[pB a 0, .slice z [0, 1, 10, 100, (-1), 100000].length t] ((c_s_l1Cur_among S (⟨c, b.2.1, b.2.2⟩ : l1Cur) f d (l.mem0 i) a [0, 1, 10, 100, (-1), 100000] z t (v.rd i 3 (by kernel_rfl)) (i.hasPick [2]) (i.nodupPick [2] (by kernel_rfl)) (apartX.old0 l i [2]) (apartX.own v i 3 (by kernel_rfl) [2] (by kernel_rfl)) P).mono ?_)
 rintro e_ T ⟨rfl, H⟩
 have K := i.callF' [2] [0, 1, 3] (by kernel_rfl) H
 refine ⟨_, rfl, ?_⟩
 refine wR 4 [(2, .slice k g.1.length j), (3, iv b.1), (4, iv (w64 (b.1 + A.1)))] T (W_nil (N_then (G_ret ?_)))
 obtain rfl := Option.some.inj hm
 exact N_ret [.slice k g.1.length j, iv b.1, iv (w64 (b.1 + A.1))] (rC (rC (rC RVs_nil))) (⟨k, j, Q, rfl, L, K.pk [0]⟩)
theorem c_s_DrawFirstWith (w : World) (b : List Int) (d : Option Addr) (c : Nat) (j : rdS Gx.encU8 w b d c) {r : (List Event) × ByteArray × Int} (hm : M.s_DrawFirstWith b = some r) :
  Calls Try.prog 49 #[.slice d b.length c] w fun e w' => ∃ (D : Option Addr) (A : Nat) (H : Seg), e = .returned (.tuple #[.slice D r.1.length A, .string r.2.1, iv r.2.2]) ∧ ownS encEvent r.1 D A H ∧ Mem [] w w' [H] := by
 unfold M.s_DrawFirstWith at hm
 refine cE Try.func49 ?_
 have M0 := Mem.refl [] w
 refine G_seq (G_region (wR 3 [(0, .slice d b.length c)] w (W_nil (N_then (G_seq (G_region (wR 2 [(8, .agg #[.slice d b.length c, iv 0, .int .u64 0])] w (wN (.cells ⟨[.slice d b.length c, iv 0, .int .u64 0]⟩ 83 (0, 0)) M0 ?_))))))))
 intro a x n
 refine wR 1 [(5, pB a 0)] x (W_nil (N_then (G_seq (G_region (wR 1 [(5, pB a 0), (10, pB a 0)] x ?_)))))
 obtain ⟨f, T, hm⟩ := gx_bind hm
 refine wC 73 #[pB a 0] ((c_s_l1Cur_record22 x (⟨b, 0, 0⟩ : l1Cur) d c (j.mem0 n) a (n.hasPick [0]) (n.nodupPick [0] (by kernel_rfl)) (apartX.old0 j n [0]) T).mono ?_)
 rintro e_ I ⟨k, h, X, rfl, S, K⟩
 have P := n.callF' [0] [] (by kernel_rfl) K
 refine ⟨_, rfl, ?_⟩
 refine wR 1 [(5, pB a 0), (6, .slice k f.1.length h)] I (W_nil (N_then (G_seq (G_region (wR 2 [(5, pB a 0), (12, .slice k f.1.length h), (13, pB a 0)] I (wL (E := Gx.encS) [(ByteArray.mk #[116, 114, 97, 112]), (ByteArray.mk #[104, 97, 108, 116]), (ByteArray.mk #[105, 114, 113]), (ByteArray.mk #[110, 111, 110, 101]), (ByteArray.mk #[])] 5 [.string (ByteArray.mk #[116, 114, 97, 112]), .string (ByteArray.mk #[104, 97, 108, 116]), .string (ByteArray.mk #[105, 114, 113]), .string (ByteArray.mk #[110, 111, 110, 101]), .string (ByteArray.mk #[])] 9 P ?_))))))
 intro F B ab Y C l
 obtain ⟨m, U, hm⟩ := gx_bind hm
 refine wC 76 #[pB a 0, .slice F [(ByteArray.mk #[116, 114, 97, 112]), (ByteArray.mk #[104, 97, 108, 116]), (ByteArray.mk #[105, 114, 113]), (ByteArray.mk #[110, 111, 110, 101]), (ByteArray.mk #[])].length B] ((c_s_l1Cur_of Y (⟨b, f.2.1, f.2.2⟩ : l1Cur) d c (j.mem0 l) a [(ByteArray.mk #[116, 114, 97, 112]), (ByteArray.mk #[104, 97, 108, 116]), (ByteArray.mk #[105, 114, 113]), (ByteArray.mk #[110, 111, 110, 101]), (ByteArray.mk #[])] F B (C.rd l 2 (by kernel_rfl)) (l.hasPick [0]) (l.nodupPick [0] (by kernel_rfl)) (apartX.old0 j l [0]) (apartX.own C l 2 (by kernel_rfl) [0] (by kernel_rfl)) U).mono ?_)
 rintro e_ Z ⟨rfl, L⟩
 have Q := l.callF' [0] [1, 2] (by kernel_rfl) L
 refine ⟨_, rfl, ?_⟩
 refine wR 1 [(5, pB a 0), (12, .slice k f.1.length h), (15, .string m.1), (16, pB a 0)] Z (wL (E := Gx.encI) [0, 1, 8, 65535, (-1), 65536] 6 [iv 0, iv 1, iv 8, iv 65535, iv (-1), iv 65536] 3 Q ?_)
 intro q i ac J u o
 refine wR 1 [(12, .slice k f.1.length h), (15, .string m.1), (16, pB a 0), (17, .slice q [0, 1, 8, 65535, (-1), 65536].length i), (18, pB a 0)] J ?_
 obtain ⟨t, V, hm⟩ := gx_bind hm
 refine wC 77 #[pB a 0, iv 24] ((c_s_l1Cur_pick J (⟨b, m.2.1, m.2.2⟩ : l1Cur) d c (j.mem0 o) a 24 (o.hasPick [2]) (o.nodupPick [2] (by kernel_rfl)) (apartX.old0 j o [2]) V).mono ?_)
 rintro e_ y ⟨rfl, N⟩
 have g := o.callF' [2] [0, 1, 3] (by kernel_rfl) N
 refine ⟨_, rfl, ?_⟩
 refine wR 2 [(12, .slice k f.1.length h), (15, .string m.1), (16, pB a 0), (17, .slice q [0, 1, 8, 65535, (-1), 65536].length i), (21, iv (w64 (4 + (w64 (t.1.tdiv 11)))))] y ?_
 obtain ⟨z, v, hm⟩ := gx_bind hm
 refine wV (.slice (subP q (0 : Int).toNat i 1) z.length (i - (0 : Int).toNat)) y (E_slice (E := Gx.encI) _ _ _ _ [0, 1, 8, 65535, (-1), 65536].length 0 (w64 (4 + (w64 (t.1.tdiv 11)))) rfl (by kernel_rfl) (Or.inl ⟨rfl, rfl⟩) (Or.inr ⟨_, rfl, by kernel_rfl⟩) (by kernel_rfl) (u.rd g 2 (by kernel_rfl)) rfl v) ?_
 obtain ⟨G, W, hm⟩ := gx_bind hm
 refine wC 75 #[pB a 0, .slice (subP q (0 : Int).toNat i 1) z.length (i - (0 : Int).toNat)] ((c_s_l1Cur_among y (⟨b, t.2.1, t.2.2⟩ : l1Cur) d c (j.mem0 g) a z (subP q (0 : Int).toNat i 1) (i - (0 : Int).toNat) ((u.rd g 2 (by kernel_rfl)).sliceM v) (g.hasPick [3]) (g.nodupPick [3] (by kernel_rfl)) (apartX.old0 j g [3]) (apartX.slice (apartX.own u g 2 (by kernel_rfl) [3] (by kernel_rfl)) v) W).mono ?_)
 rintro e_ aa ⟨rfl, O⟩
 have R := g.callF' [3] [0, 1, 2] (by kernel_rfl) O
 refine ⟨_, rfl, ?_⟩
 refine wR 3 [(2, .slice k f.1.length h), (3, .string m.1), (4, iv G.1)] aa (W_nil (N_then (G_ret ?_)))
 obtain rfl := Option.some.inj hm
 exact N_ret [.slice k f.1.length h, .string m.1, iv G.1] (rC (rC (rC RVs_nil))) (⟨k, h, X, rfl, S, R.pk [0]⟩)
theorem c_s_DrawIsRecord (w : World) (a : List Int) (c : Option Addr) (b : Nat) (k : rdS Gx.encU8 w a c b) {r : (List Event)} (hm : M.s_DrawIsRecord a = some r) :
  Calls Try.prog 78 #[.slice c a.length b] w fun e w' => ∃ (l : Option Addr) (j : Nat) (n : Seg), e = .returned (.slice l r.length j) ∧ ownS encEvent r l j n ∧ Mem [] w w' [n] := by
 unfold M.s_DrawIsRecord at hm
 refine cE Try.func78 ?_
 have M0 := Mem.refl [] w
 refine G_seq (G_region (wR 1 [(0, .slice c a.length b)] w (W_nil (N_then (G_seq (G_region (wR 2 [(5, .agg #[.slice c a.length b, iv 0, .int .u64 0])] w (wN (.cells ⟨[.slice c a.length b, iv 0, .int .u64 0]⟩ 83 (0, 0)) M0 ?_))))))))
 intro f i d
 refine wR 1 [(3, pB f 0)] i (W_nil (N_then (G_seq (G_region (wR 1 [(7, pB f 0)] i ?_)))))
 obtain ⟨m, u, hm⟩ := gx_bind hm
 refine wC 73 #[pB f 0] ((c_s_l1Cur_record22 i (⟨a, 0, 0⟩ : l1Cur) c b (k.mem0 d) f (d.hasPick [0]) (d.nodupPick [0] (by kernel_rfl)) (apartX.old0 k d [0]) u).mono ?_)
 rintro e_ x ⟨h, g, v, rfl, t, o⟩
 have q := d.callF' [0] [] (by kernel_rfl) o
 refine ⟨_, rfl, ?_⟩
 refine wR 1 [(2, .slice h m.1.length g)] x (W_nil (N_then (G_ret ?_)))
 obtain rfl := Option.some.inj hm
 exact N_ret [.slice h m.1.length g] (rC RVs_nil) (⟨h, g, v, rfl, t, q.pk [1]⟩)
theorem c_s_DrawLongestGap (w : World) (a : List Int) (c : Option Addr) (b : Nat) (m : rdS Gx.encU8 w a c b) {r : (List Event)} (hm : M.s_DrawLongestGap a = some r) :
  Calls Try.prog 50 #[.slice c a.length b] w fun e w' => ∃ (h : Option Addr) (g : Nat) (j : Seg), e = .returned (.slice h r.length g) ∧ ownS encEvent r h g j ∧ Mem [] w w' [j] := by
 unfold M.s_DrawLongestGap at hm
 refine cE Try.func50 ?_
 have M0 := Mem.refl [] w
 refine G_seq (G_region (wR 1 [(0, .slice c a.length b)] w (W_nil (N_then (G_seq (G_region (wR 1 [(3, .slice c a.length b)] w ?_)))))))
 obtain ⟨i, o, hm⟩ := gx_bind hm
 refine wC 78 #[.slice c a.length b] ((c_s_DrawIsRecord w a c b (m.mem0 M0) o).mono ?_)
 rintro e_ t ⟨f, d, q, rfl, n, k⟩
 have l := M0.call k
 refine ⟨_, rfl, ?_⟩
 refine wR 1 [(2, .slice f i.length d)] t (W_nil (N_then (G_ret ?_)))
 obtain rfl := Option.some.inj hm
 exact N_ret [.slice f i.length d] (rC RVs_nil) (⟨f, d, q, rfl, n, l.pk [0]⟩)
theorem c_l_FnRecords (w : World) (b : List Int) (d : Option Addr) (c : Nat) (ac : rdS Gx.encU8 w b d c) {r : Bool} (hm : M.l_FnRecords b = some r) :
  Calls Try.prog 12 #[.slice d b.length c] w fun e w' => e = .returned (.bool r) ∧ Mem [] w w' [] := by
 unfold M.l_FnRecords at hm
 refine cE Try.func12 ?_
 have M0 := Mem.refl [] w
 refine G_seq (G_region (wR 1 [(0, .slice d b.length c)] w (W_nil (N_then (G_seq (G_seq (G_region (wR 1 [(0, .slice d b.length c), (40, .slice d b.length c)] w ?_))))))))
 obtain ⟨ga, ev, hm⟩ := gx_bind hm
 refine wC 44 #[.slice d b.length c] ((c_l_rBig w b d c (ac.mem0 M0) ev).mono ?_)
 rintro e_ b3 ⟨rfl, c3⟩
 have a0 := M0.call0 c3
 refine ⟨_, rfl, ?_⟩
 refine W_nil (N_then ?_)
 rcases gx_bif hm with ⟨bc, hm⟩ | ⟨bc, hm⟩
 ·refine gT bc (G_seq (G_region (wR 1 [(2, .bool true)] b3 (W_nil (N_then (G_ret (N_then_ret ?_)))))))
  obtain rfl := Option.some.inj hm
  exact N_ret [.bool true] (rC RVs_nil) (⟨rfl, a0.pk []⟩)
 refine gF bc (G_skip (N_then (G_seq (G_region (wR 1 [(0, .slice d b.length c), (43, .slice d b.length c)] b3 ?_)))))
 obtain ⟨k, ew, hm⟩ := gx_bind hm
 refine wC 45 #[.slice d b.length c] ((c_s_DrawMergeRecords b3 b d c (ac.mem0 a0) ew).mono ?_)
 rintro e_ b4 ⟨A, y, gb, B, z, gc, rfl, cp, cq, c4⟩
 have a3 := a0.call c4
 refine ⟨_, rfl, ?_⟩
 refine wR 5 [(0, .slice d b.length c), (3, .slice A k.1.length y), (4, .slice B k.2.length z)] b4 (W_nil (N_then (G_seq (G_region (wR 2 [(0, .slice d b.length c), (3, .slice A k.1.length y), (4, .slice B k.2.length z), (48, .slice A k.1.length y), (49, .slice B k.2.length z)] b4 ?_)))))
 obtain ⟨o, ex, hm⟩ := gx_bind hm
 refine wC 35 #[.slice A k.1.length y, .slice B k.2.length z] ((c_i_MergeRecords b4 k.1 A y (cp.rd a3 0 (by kernel_rfl)) k.2 B z (cq.rd a3 1 (by kernel_rfl)) ex).mono ?_)
 rintro e_ b5 ⟨E, D, gd, rfl, cr, c5⟩
 have a4 := a3.call c5
 refine ⟨_, rfl, ?_⟩
 refine wR 5 [(0, .slice d b.length c), (3, .slice A k.1.length y), (4, .slice B k.2.length z), (5, .slice E o.1.length D), (6, .bool o.2)] b5 (W_nil (N_then (G_seq (G_seq (G_region (wR 2 [(0, .slice d b.length c), (3, .slice A k.1.length y), (4, .slice B k.2.length z), (5, .slice E o.1.length D), (6, .bool o.2), (54, .slice A k.1.length y), (55, .slice B k.2.length z)] b5 ?_))))))
 obtain ⟨W, ey, hm⟩ := gx_bind hm
 refine wC 34 #[.slice A k.1.length y, .slice B k.2.length z] ((c_s_MergeRecords b5 k.1 A y (cp.rd a4 0 (by kernel_rfl)) k.2 B z (cq.rd a4 1 (by kernel_rfl)) ey).mono ?_)
 rintro e_ ao ⟨aj, af, ge, rfl, eh, c6⟩
 have au := a4.call c6
 refine ⟨_, rfl, ?_⟩
 refine wR 5 [(0, .slice d b.length c), (3, .slice A k.1.length y), (4, .slice B k.2.length z), (5, .slice E o.1.length D), (6, .bool o.2), (7, .slice aj W.1.length af), (8, .bool W.2)] ao (W_nil (N_then (G_seq ?_)))
 obtain ⟨fi, ei, ea⟩ := gx_bind hm
 refine G_meet (fun a w' => Mem [] w w' [] ∧ Sat Try.f12.ntmps [(0, .slice d b.length c), (85, .bool fi)] a) ?_ ?_
 ·have hm := ei
  refine G_region (wR 4 [(0, .slice d b.length c), (3, .slice A k.1.length y), (4, .slice B k.2.length z), (5, .slice E o.1.length D), (6, .bool o.2), (7, .slice aj W.1.length af), (62, .bool (!(o.2 == W.2)))] ao ?_)
  rcases gx_bif hm with ⟨bd, hm⟩ | ⟨bd, hm⟩
  ·refine wK 62 true bd (wR 23 [(0, .slice d b.length c), (85, .bool true)] ao (W_nil ?_))
   obtain rfl := Option.some.inj hm
   exact N_meet fun a ha => ⟨au.pk [], ha.s⟩
  refine wK 62 false bd (wR 2 [(0, .slice d b.length c), (3, .slice A k.1.length y), (4, .slice B k.2.length z), (5, .slice E o.1.length D), (6, .bool o.2), (62, .bool false), (63, .slice E o.1.length D), (64, .slice aj W.1.length af)] ao ?_)
  obtain ⟨fp, ez, hm⟩ := gx_bind hm
  refine wC 46 #[.slice E o.1.length D, .slice aj W.1.length af] ((c_l_rEvents ao o.1 E D (cr.rd au 2 (by kernel_rfl)) W.1 aj af (eh.rd au 3 (by kernel_rfl)) ez).mono ?_)
  rintro e_ S ⟨rfl, c7⟩
  have ae := au.call0 c7
  refine ⟨_, rfl, ?_⟩
  refine wR 3 [(0, .slice d b.length c), (3, .slice A k.1.length y), (4, .slice B k.2.length z), (5, .slice E o.1.length D), (6, .bool o.2), (68, .bool (!fp))] S ?_
  rcases gx_bif hm with ⟨be, hm⟩ | ⟨be, hm⟩
  ·refine wK 68 true be (wR 17 [(0, .slice d b.length c), (85, .bool true)] S (W_nil ?_))
   obtain rfl := Option.some.inj hm
   exact N_meet fun a ha => ⟨ae.pk [], ha.s⟩
  refine wK 68 false be (wR 2 [(0, .slice d b.length c), (3, .slice A k.1.length y), (4, .slice B k.2.length z), (5, .slice E o.1.length D), (68, .bool false), (70, .bool o.2)] S ?_)
  rcases gx_bif hm with ⟨bf, hm⟩ | ⟨bf, hm⟩
  ·refine wK 70 true bf (wR 9 [(0, .slice d b.length c), (5, .slice E o.1.length D), (68, .bool false), (70, .bool true), (79, .bool ((o.1.length : Int) != (w64 ((k.1.length : Int) + (k.2.length : Int)))))] S ?_)
   rcases gx_bif hm with ⟨bg, hm⟩ | ⟨bg, hm⟩
   ·refine wK 79 true bg (wR 6 [(0, .slice d b.length c), (85, .bool true)] S (W_nil ?_))
    obtain rfl := Option.some.inj hm
    exact N_meet fun a ha => ⟨ae.pk [], ha.s⟩
   refine wK 79 false bg (wR 1 [(0, .slice d b.length c), (68, .bool false), (70, .bool true), (79, .bool false), (80, .slice E o.1.length D)] S ?_)
   obtain ⟨fq, e0, hm⟩ := gx_bind hm
   refine wC 20 #[.slice E o.1.length D] ((c_i_IsRecord S o.1 E D (cr.rd ae 2 (by kernel_rfl)) e0).mono ?_)
   rintro e_ fu ⟨rfl, c8⟩
   have dr := ae.call0 c8
   refine ⟨_, rfl, ?_⟩
   refine wR 4 [(0, .slice d b.length c), (85, .bool (!fq))] fu (W_nil ?_)
   obtain rfl := Option.some.inj hm
   exact N_meet fun a ha => ⟨dr.pk [], ha.s⟩
  refine wK 70 false bf (wR 15 [(0, .slice d b.length c), (85, .bool false)] S (W_nil ?_))
  obtain rfl := Option.some.inj hm
  exact N_meet fun a ha => ⟨ae.pk [], ha.s⟩
 intro f2 b6 ⟨a5, d2⟩
 refine N_use d2 ?_
 have hm := ea
 refine N_then ?_
 rcases gx_bif hm with ⟨bh, hm⟩ | ⟨bh, hm⟩
 ·refine gT bh (G_seq (G_region (wR 1 [(2, .bool false)] b6 (W_nil (N_then (G_ret (N_then_ret ?_)))))))
  obtain rfl := Option.some.inj hm
  exact N_ret [.bool false] (rC RVs_nil) (⟨rfl, a5.pk []⟩)
 refine gF bh (G_skip (N_then (G_seq (G_region (wR 1 [(0, .slice d b.length c), (87, .slice d b.length c)] b6 ?_)))))
 obtain ⟨f, e1, hm⟩ := gx_bind hm
 refine wC 47 #[.slice d b.length c] ((c_s_DrawAddEvent b6 b d c (ac.mem0 a5) e1).mono ?_)
 rintro e_ fv ⟨I, H, gf, rfl, cs, c9⟩
 have ds := a5.call c9
 refine ⟨_, rfl, ?_⟩
 refine wR 3 [(0, .slice d b.length c), (89, .slice I f.1.length H), (90, .agg #[iv f.2.Tick, iv f.2.Guest, .string f.2.Kind, iv f.2.Value])] fv (wN (.cells ⟨[iv 0, iv 0, .string ByteArray.empty, iv 0]⟩ 26 (0, 0)) ds ?_)
 intro u fw dt
 refine wR 1 [(0, .slice d b.length c), (9, .slice I f.1.length H), (10, pB u 0), (90, .agg #[iv f.2.Tick, iv f.2.Guest, .string f.2.Kind, iv f.2.Value])] fw (wS true 4 0 (.agg #[iv f.2.Tick, iv f.2.Guest, .string f.2.Kind, iv f.2.Value]) 1 [iv f.2.Tick, iv f.2.Guest, .string f.2.Kind, iv f.2.Value] dt rfl ?_)
 intro b7 a6
 refine W_nil (N_then (G_seq (G_region (wR 1 [(0, .slice d b.length c), (9, .slice I f.1.length H), (10, pB u 0), (92, .slice I f.1.length H)] b7 (wV (.agg #[iv f.2.Tick, iv f.2.Guest, .string f.2.Kind, iv f.2.Value]) b7 (eL true 4 0 (a6.blk 1 rfl)) ?_)))))
 obtain ⟨h, e2, hm⟩ := gx_bind hm
 refine wC 33 #[.slice I f.1.length H, .agg #[iv f.2.Tick, iv f.2.Guest, .string f.2.Kind, iv f.2.Value]] ((c_i_AddEvent b7 f.1 I H (cs.rd a6 0 (by kernel_rfl)) f.2 e2).mono ?_)
 rintro e_ az ⟨j, i, cz, rfl, ay, da⟩
 have a7 := a6.call da
 refine ⟨_, rfl, ?_⟩
 refine wR 5 [(0, .slice d b.length c), (9, .slice I f.1.length H), (10, pB u 0), (11, .slice j h.1.length i), (12, .bool h.2)] az (W_nil (N_then (G_seq (G_seq (G_region (wR 1 [(0, .slice d b.length c), (10, pB u 0), (11, .slice j h.1.length i), (12, .bool h.2), (98, .slice I f.1.length H)] az (wV (.agg #[iv f.2.Tick, iv f.2.Guest, .string f.2.Kind, iv f.2.Value]) az (eL true 4 0 (a7.blk 1 rfl)) ?_)))))))
 obtain ⟨X, e3, hm⟩ := gx_bind hm
 refine wC 32 #[.slice I f.1.length H, .agg #[iv f.2.Tick, iv f.2.Guest, .string f.2.Kind, iv f.2.Value]] ((c_s_AddEvent az f.1 I H (cs.rd a7 0 (by kernel_rfl)) f.2 e3).mono ?_)
 rintro e_ ap ⟨ak, ag, gg, rfl, ej, db⟩
 have av := a7.call db
 refine ⟨_, rfl, ?_⟩
 refine wR 5 [(0, .slice d b.length c), (10, pB u 0), (11, .slice j h.1.length i), (12, .bool h.2), (13, .slice ak X.1.length ag), (14, .bool X.2)] ap (W_nil (N_then (G_seq ?_)))
 obtain ⟨fj, ek, eb⟩ := gx_bind hm
 refine G_meet (fun a w' => Mem [] w w' [[(u, .cells ⟨[iv f.2.Tick, iv f.2.Guest, .string f.2.Kind, iv f.2.Value]⟩ 26 (0, 0))], cz] ∧ Sat Try.f12.ntmps [(0, .slice d b.length c), (10, pB u 0), (11, .slice j h.1.length i), (12, .bool h.2), (111, .bool fj)] a) ?_ ?_
 ·have hm := ek
  refine G_region (wR 4 [(0, .slice d b.length c), (10, pB u 0), (11, .slice j h.1.length i), (12, .bool h.2), (13, .slice ak X.1.length ag), (106, .bool (!(h.2 == X.2)))] ap ?_)
  rcases gx_bif hm with ⟨bi, hm⟩ | ⟨bi, hm⟩
  ·refine wK 106 true bi (wR 5 [(0, .slice d b.length c), (10, pB u 0), (11, .slice j h.1.length i), (12, .bool h.2), (111, .bool true)] ap (W_nil ?_))
   obtain rfl := Option.some.inj hm
   exact N_meet fun a ha => ⟨av.pk [1, 2], ha.s⟩
  refine wK 106 false bi (wR 2 [(0, .slice d b.length c), (10, pB u 0), (11, .slice j h.1.length i), (12, .bool h.2), (106, .bool false), (107, .slice j h.1.length i), (108, .slice ak X.1.length ag)] ap ?_)
  obtain ⟨fr, e4, hm⟩ := gx_bind hm
  refine wC 46 #[.slice j h.1.length i, .slice ak X.1.length ag] ((c_l_rEvents ap h.1 j i (ay.rd av 2 (by kernel_rfl)) X.1 ak ag (ej.rd av 3 (by kernel_rfl)) e4).mono ?_)
  rintro e_ fx ⟨rfl, dc⟩
  have du := av.call0 dc
  refine ⟨_, rfl, ?_⟩
  refine wR 2 [(0, .slice d b.length c), (10, pB u 0), (11, .slice j h.1.length i), (12, .bool h.2), (111, .bool (!fr))] fx (W_nil ?_)
  obtain rfl := Option.some.inj hm
  exact N_meet fun a ha => ⟨du.pk [1, 2], ha.s⟩
 intro f3 aa ⟨ab, d3⟩
 refine N_use d3 ?_
 have hm := eb
 refine N_then ?_
 rcases gx_bif hm with ⟨bj, hm⟩ | ⟨bj, hm⟩
 ·refine gT bj (G_seq (G_region (wR 1 [(2, .bool false)] aa (W_nil (N_then (G_ret (N_then_ret ?_)))))))
  obtain rfl := Option.some.inj hm
  exact N_ret [.bool false] (rC RVs_nil) (⟨rfl, ab.pk []⟩)
 refine gF bj (G_skip (N_then (G_seq (G_seq (G_region (wR 1 [(0, .slice d b.length c), (10, pB u 0), (11, .slice j h.1.length i), (112, .bool h.2)] aa (W_nil (N_then ?_))))))))
 obtain ⟨fo, el, b0⟩ := gx_bind hm
 refine G_meet (fun a w' => ∃ (cx : Unit), fo = .inl cx ∧ Mem [] w w' [] ∧ Sat Try.f12.ntmps [(0, .slice d b.length c)] a) ?_ ?_
 ·have hm := el
  rcases gx_bif hm with ⟨bk, hm⟩ | ⟨bk, hm⟩
  ·refine gT bk (G_seq (G_region (wR 2 [(0, .slice d b.length c), (10, pB u 0), (11, .slice j h.1.length i), (114, .slice j h.1.length i), (115, pB u 0)] aa (wV (iv f.2.Tick) aa (eL false 1 0 (ab.blk 0 rfl)) (wR 1 [(0, .slice d b.length c), (10, pB u 0), (11, .slice j h.1.length i), (114, .slice j h.1.length i), (116, iv f.2.Tick), (117, pB u 0)] aa (wV (iv f.2.Tick) aa (eL false 1 0 (ab.blk 0 rfl)) ?_))))))
   obtain ⟨t, e5, hm⟩ := gx_bind hm
   refine wC 31 #[.slice j h.1.length i, iv f.2.Tick, iv f.2.Tick] ((c_i_EventsWithin aa h.1 j i (ay.rd ab 1 (by kernel_rfl)) f.2.Tick f.2.Tick e5).mono ?_)
   rintro e_ fy ⟨R, T, gh, rfl, ct, dd⟩
   have dv := ab.call dd
   refine ⟨_, rfl, ?_⟩
   refine wR 5 [(0, .slice d b.length c), (10, pB u 0), (11, .slice j h.1.length i), (15, .slice R t.1.length T), (16, .bool t.2)] fy (W_nil (N_then (G_seq (G_seq ?_))))
   obtain ⟨fk, em, ec⟩ := gx_bind hm
   refine G_meet (fun a w' => Mem [] w w' [cz] ∧ Sat Try.f12.ntmps [(0, .slice d b.length c), (11, .slice j h.1.length i), (138, .bool fk)] a) ?_ ?_
   ·have hm := em
    refine G_quiet (by kernel_rfl) (by kernel_rfl) dv (zR [.bool t.2, .bool (!t.2), .bool (!t.2)] [(0, .slice d b.length c), (10, pB u 0), (11, .slice j h.1.length i), (15, .slice R t.1.length T), (124, .bool (!t.2))] ?_)
    rcases gx_bif hm with ⟨bl, hm⟩ | ⟨bl, hm⟩
    ·refine zK 124 true bl (zR [undef, undef, undef, .bool true, .bool true, undef, undef, undef, undef, undef, undef, undef, undef, .bool true] [(0, .slice d b.length c), (11, .slice j h.1.length i), (138, .bool true)] (Z_end fun go dw => ?_))
     obtain rfl := Option.some.inj hm
     exact N_meet fun a ha => ⟨dw.pk [1], ha.s⟩
    refine zK 124 false bl (zR [.slice R t.1.length T, iv (t.1.length : Int), .bool ((t.1.length : Int) == 0), .bool ((t.1.length : Int) == 0), .bool ((t.1.length : Int) == 0)] [(0, .slice d b.length c), (10, pB u 0), (11, .slice j h.1.length i), (15, .slice R t.1.length T), (129, .bool ((t.1.length : Int) == 0))] ?_)
    rcases gx_bif hm with ⟨bm, hm⟩ | ⟨bm, hm⟩
    ·refine zK 129 true bm (zR [undef, undef, undef, undef, undef, undef, undef, undef, .bool true] [(0, .slice d b.length c), (11, .slice j h.1.length i), (138, .bool true)] (Z_end fun gp dx => ?_))
     obtain rfl := Option.some.inj hm
     exact N_meet fun a ha => ⟨dx.pk [1], ha.s⟩
    refine zK 129 false bm (zR [.slice R t.1.length T, .slice R t.1.length T, iv (t.1.length : Int), iv (w64 ((t.1.length : Int) - 1))] [(0, .slice d b.length c), (10, pB u 0), (11, .slice j h.1.length i), (129, .bool false), (130, .slice R t.1.length T), (133, iv (w64 ((t.1.length : Int) - 1)))] ?_)
    obtain ⟨n, cw, hm⟩ := gx_bind hm
    refine zV (elemP R ((w64 ((t.1.length : Int) - 1)).toNat * 4)) (fun w_ M_ => (eI (ct.rd M_ 2 (by kernel_rfl)) rfl cw)) (zV (.agg #[iv n.Tick, iv n.Guest, .string n.Kind, iv n.Value]) (fun w_ M_ => (eE true 4 0 ((w64 ((t.1.length : Int) - 1)).toNat * 4) (ct.rd M_ 2 (by kernel_rfl)) cw)) (zV (.agg #[iv f.2.Tick, iv f.2.Guest, .string f.2.Kind, iv f.2.Value]) (fun w_ M_ => (eL true 4 0 (M_.blk 0 rfl))) (zV (.bool (!((n.Tick == f.2.Tick) && ((n.Guest == f.2.Guest) && ((n.Kind.toList == f.2.Kind.toList) && ((n.Value == f.2.Value) && true)))))) (fun w_ M_ => (E_neqAgg _ _ _ _ [iv n.Tick, iv n.Guest, .string n.Kind, iv n.Value] [iv f.2.Tick, iv f.2.Guest, .string f.2.Kind, iv f.2.Value] ((n.Tick == f.2.Tick) && ((n.Guest == f.2.Guest) && ((n.Kind.toList == f.2.Kind.toList) && ((n.Value == f.2.Value) && true)))) rfl (by kernel_rfl) (by kernel_rfl) (by kernel_rfl) (by kernel_rfl) (by kernel_rfl) (by kernel_rfl))) (zR [.bool (!((n.Tick == f.2.Tick) && ((n.Guest == f.2.Guest) && ((n.Kind.toList == f.2.Kind.toList) && ((n.Value == f.2.Value) && true)))))] [(0, .slice d b.length c), (11, .slice j h.1.length i), (138, .bool (!((n.Tick == f.2.Tick) && ((n.Guest == f.2.Guest) && ((n.Kind.toList == f.2.Kind.toList) && ((n.Value == f.2.Value) && true))))))] (Z_end fun gq dy => ?_)))))
    obtain rfl := Option.some.inj hm
    exact N_meet fun a ha => ⟨dy.pk [1], ha.s⟩
   intro f4 b8 ⟨a8, d4⟩
   refine N_use d4 ?_
   have hm := ec
   refine N_then ?_
   rcases gx_bif hm with ⟨bn, hm⟩ | ⟨bn, hm⟩
   ·refine gT bn (G_seq (G_region (wR 1 [(2, .bool false)] b8 (W_nil (N_then (G_ret (N_then_ret (N_meet_ret ?_))))))))
    obtain rfl := Option.some.inj hm
    have hm := b0
    simp only [Sum.elim_inr] at hm
    refine N_then_ret ?_
    obtain rfl := Option.some.inj hm
    exact N_ret [.bool false] (rC RVs_nil) (⟨rfl, a8.pk []⟩)
   refine gF bn (G_skip (N_then (G_seq (G_region (wR 1 [(0, .slice d b.length c), (11, .slice j h.1.length i), (140, .slice j h.1.length i)] b8 ?_)))))
   obtain ⟨Y, e6, hm⟩ := gx_bind hm
   refine wC 31 #[.slice j h.1.length i, iv 0, iv 100000] ((c_i_EventsWithin b8 h.1 j i (ay.rd a8 0 (by kernel_rfl)) 0 100000 e6).mono ?_)
   rintro e_ aq ⟨al, ah, gi, rfl, en, de⟩
   have aw := a8.call de
   refine ⟨_, rfl, ?_⟩
   refine wR 5 [(0, .slice d b.length c), (11, .slice j h.1.length i), (17, .slice al Y.1.length ah), (18, .bool Y.2)] aq (W_nil (N_then (G_seq ?_)))
   obtain ⟨fl, eo, ed⟩ := gx_bind hm
   refine G_meet (fun a w' => Mem [] w w' [] ∧ Sat Try.f12.ntmps [(0, .slice d b.length c), (151, .bool fl)] a) ?_ ?_
   ·have hm := eo
    refine G_region (wR 3 [(0, .slice d b.length c), (11, .slice j h.1.length i), (17, .slice al Y.1.length ah), (146, .bool (!Y.2))] aq ?_)
    rcases gx_bif hm with ⟨bo, hm⟩ | ⟨bo, hm⟩
    ·refine wK 146 true bo (wR 5 [(0, .slice d b.length c), (151, .bool true)] aq (W_nil ?_))
     obtain rfl := Option.some.inj hm
     exact N_meet fun a ha => ⟨aw.pk [], ha.s⟩
    refine wK 146 false bo (wR 2 [(0, .slice d b.length c), (146, .bool false), (147, .slice al Y.1.length ah), (148, .slice j h.1.length i)] aq ?_)
    obtain ⟨fs, e7, hm⟩ := gx_bind hm
    refine wC 46 #[.slice al Y.1.length ah, .slice j h.1.length i] ((c_l_rEvents aq Y.1 al ah (en.rd aw 1 (by kernel_rfl)) h.1 j i (ay.rd aw 0 (by kernel_rfl)) e7).mono ?_)
    rintro e_ fz ⟨rfl, df⟩
    have dz := aw.call0 df
    refine ⟨_, rfl, ?_⟩
    refine wR 2 [(0, .slice d b.length c), (151, .bool (!fs))] fz (W_nil ?_)
    obtain rfl := Option.some.inj hm
    exact N_meet fun a ha => ⟨dz.pk [], ha.s⟩
   intro f5 f0 ⟨ch, d5⟩
   refine N_use d5 ?_
   have hm := ed
   refine N_then ?_
   rcases gx_bif hm with ⟨bp, hm⟩ | ⟨bp, hm⟩
   ·refine gT bp (G_seq (G_region (wR 1 [(2, .bool false)] f0 (W_nil (N_then (G_ret (N_meet_ret ?_)))))))
    obtain rfl := Option.some.inj hm
    have hm := b0
    simp only [Sum.elim_inr] at hm
    refine N_then_ret ?_
    obtain rfl := Option.some.inj hm
    exact N_ret [.bool false] (rC RVs_nil) (⟨rfl, ch.pk []⟩)
   refine gF bp (G_skip ?_)
   obtain rfl := Option.some.inj hm
   exact N_meet fun a ha => ⟨_, rfl, ch.pk [], ha.s⟩
  refine gF bk (G_skip ?_)
  obtain rfl := Option.some.inj hm
  exact N_meet fun a ha => ⟨_, rfl, ab.pk [], ha.s⟩
 intro f6 c0 ⟨cx, hout_, ci, d6⟩
 refine N_use d6 ?_
 subst hout_
 have hm := b0
 simp only [Sum.elim_inl] at hm
 refine N_then (G_seq (G_region (wR 1 [(0, .slice d b.length c), (153, .slice d b.length c)] c0 ?_)))
 obtain ⟨l, e8, hm⟩ := gx_bind hm
 refine wC 48 #[.slice d b.length c] ((c_s_DrawEventsWithin c0 b d c (ac.mem0 ci) e8).mono ?_)
 rintro e_ b9 ⟨L, J, gj, rfl, cu, dg⟩
 have cj := ci.call dg
 refine ⟨_, rfl, ?_⟩
 refine wR 7 [(0, .slice d b.length c), (19, .slice L l.1.length J), (20, iv l.2.1), (21, iv l.2.2)] b9 (W_nil (N_then (G_seq (G_region (wR 3 [(0, .slice d b.length c), (19, .slice L l.1.length J), (20, iv l.2.1), (21, iv l.2.2), (159, .slice L l.1.length J), (160, iv l.2.1), (161, iv l.2.2)] b9 ?_)))))
 obtain ⟨G, e9, hm⟩ := gx_bind hm
 refine wC 31 #[.slice L l.1.length J, iv l.2.1, iv l.2.2] ((c_i_EventsWithin b9 l.1 L J (cu.rd cj 0 (by kernel_rfl)) l.2.1 l.2.2 e9).mono ?_)
 rintro e_ ca ⟨V, U, gk, rfl, ep, dh⟩
 have ck := cj.call dh
 refine ⟨_, rfl, ?_⟩
 refine wR 5 [(0, .slice d b.length c), (19, .slice L l.1.length J), (20, iv l.2.1), (21, iv l.2.2), (22, .slice V G.1.length U), (23, .bool G.2)] ca (W_nil (N_then (G_seq (G_seq (G_region (wR 3 [(0, .slice d b.length c), (22, .slice V G.1.length U), (23, .bool G.2), (166, .slice L l.1.length J), (167, iv l.2.1), (168, iv l.2.2)] ca ?_))))))
 obtain ⟨Z, fa, hm⟩ := gx_bind hm
 refine wC 30 #[.slice L l.1.length J, iv l.2.1, iv l.2.2] ((c_s_EventsWithin ca l.1 L J (cu.rd ck 0 (by kernel_rfl)) l.2.1 l.2.2 fa).mono ?_)
 rintro e_ ar ⟨am, ai, gl, rfl, er, di⟩
 have ax := ck.call di
 refine ⟨_, rfl, ?_⟩
 refine wR 5 [(0, .slice d b.length c), (22, .slice V G.1.length U), (23, .bool G.2), (24, .slice am Z.1.length ai), (25, .bool Z.2)] ar (W_nil (N_then (G_seq ?_)))
 obtain ⟨fm, es, ee⟩ := gx_bind hm
 refine G_meet (fun a w' => Mem [] w w' [] ∧ Sat Try.f12.ntmps [(0, .slice d b.length c), (180, .bool fm)] a) ?_ ?_
 ·have hm := es
  refine G_region (wR 4 [(0, .slice d b.length c), (22, .slice V G.1.length U), (24, .slice am Z.1.length ai), (175, .bool (!(G.2 == Z.2)))] ar ?_)
  rcases gx_bif hm with ⟨bq, hm⟩ | ⟨bq, hm⟩
  ·refine wK 175 true bq (wR 5 [(0, .slice d b.length c), (180, .bool true)] ar (W_nil ?_))
   obtain rfl := Option.some.inj hm
   exact N_meet fun a ha => ⟨ax.pk [], ha.s⟩
  refine wK 175 false bq (wR 2 [(0, .slice d b.length c), (175, .bool false), (176, .slice V G.1.length U), (177, .slice am Z.1.length ai)] ar ?_)
  obtain ⟨ft, fb, hm⟩ := gx_bind hm
  refine wC 46 #[.slice V G.1.length U, .slice am Z.1.length ai] ((c_l_rEvents ar G.1 V U (ep.rd ax 1 (by kernel_rfl)) Z.1 am ai (er.rd ax 2 (by kernel_rfl)) fb).mono ?_)
  rintro e_ f1 ⟨rfl, dj⟩
  have d0 := ax.call0 dj
  refine ⟨_, rfl, ?_⟩
  refine wR 2 [(0, .slice d b.length c), (180, .bool (!ft))] f1 (W_nil ?_)
  obtain rfl := Option.some.inj hm
  exact N_meet fun a ha => ⟨d0.pk [], ha.s⟩
 intro f7 cb ⟨a9, d7⟩
 refine N_use d7 ?_
 have hm := ee
 refine N_then ?_
 rcases gx_bif hm with ⟨br, hm⟩ | ⟨br, hm⟩
 ·refine gT br (G_seq (G_region (wR 1 [(2, .bool false)] cb (W_nil (N_then (G_ret (N_then_ret ?_)))))))
  obtain rfl := Option.some.inj hm
  exact N_ret [.bool false] (rC RVs_nil) (⟨rfl, a9.pk []⟩)
 refine gF br (G_skip (N_then (G_seq (G_region (wR 1 [(0, .slice d b.length c), (182, .slice d b.length c)] cb ?_)))))
 obtain ⟨g, fc, hm⟩ := gx_bind hm
 refine wC 49 #[.slice d b.length c] ((c_s_DrawFirstWith cb b d c (ac.mem0 a9) fc).mono ?_)
 rintro e_ cc ⟨q, v, gm, rfl, Q, dk⟩
 have cl := a9.call dk
 refine ⟨_, rfl, ?_⟩
 refine wR 7 [(0, .slice d b.length c), (26, .slice q g.1.length v), (27, .string g.2.1), (28, iv g.2.2)] cc (W_nil (N_then (G_seq (G_region (wR 3 [(0, .slice d b.length c), (26, .slice q g.1.length v), (27, .string g.2.1), (28, iv g.2.2), (188, .slice q g.1.length v), (189, .string g.2.1), (190, iv g.2.2)] cc ?_)))))
 obtain ⟨m, fd, hm⟩ := gx_bind hm
 refine wC 25 #[.slice q g.1.length v, .string g.2.1, iv g.2.2] ((c_i_FirstWith cc g.1 q v (Q.rd cl 0 (by kernel_rfl)) g.2.1 g.2.2 fd).mono ?_)
 rintro e_ cd ⟨rfl, dl⟩
 have cm := cl.call0 dl
 refine ⟨_, rfl, ?_⟩
 refine wR 5 [(0, .slice d b.length c), (26, .slice q g.1.length v), (27, .string g.2.1), (28, iv g.2.2), (29, iv m.1), (30, .bool m.2)] cd (W_nil (N_then (G_seq (G_seq (G_region (wR 3 [(0, .slice d b.length c), (26, .slice q g.1.length v), (27, .string g.2.1), (28, iv g.2.2), (29, iv m.1), (30, .bool m.2), (195, .slice q g.1.length v), (196, .string g.2.1), (197, iv g.2.2)] cd ?_))))))
 obtain ⟨an, fe, hm⟩ := gx_bind hm
 refine wC 24 #[.slice q g.1.length v, .string g.2.1, iv g.2.2] ((c_s_FirstWith cd g.1 q v (Q.rd cm 0 (by kernel_rfl)) g.2.1 g.2.2 fe).mono ?_)
 rintro e_ x ⟨rfl, dm⟩
 have F := cm.call0 dm
 refine ⟨_, rfl, ?_⟩
 refine wR 5 [(0, .slice d b.length c), (26, .slice q g.1.length v), (27, .string g.2.1), (28, iv g.2.2), (29, iv m.1), (30, .bool m.2), (31, iv an.1), (32, .bool an.2)] x (W_nil (N_then (G_seq ?_)))
 obtain ⟨fn, et, ef⟩ := gx_bind hm
 refine G_meet (fun a w' => Mem [] w w' [] ∧ Sat Try.f12.ntmps [(0, .slice d b.length c), (229, .bool fn)] a) ?_ ?_
 ·have hm := et
  refine G_region (wR 4 [(0, .slice d b.length c), (26, .slice q g.1.length v), (27, .string g.2.1), (28, iv g.2.2), (29, iv m.1), (30, .bool m.2), (32, .bool an.2), (204, .bool (m.1 != an.1))] x ?_)
  rcases gx_bif hm with ⟨bs, hm⟩ | ⟨bs, hm⟩
  ·refine wK 204 true bs (wR 25 [(0, .slice d b.length c), (229, .bool true)] x (W_nil ?_))
   obtain rfl := Option.some.inj hm
   exact N_meet fun a ha => ⟨F.pk [], ha.s⟩
  refine wK 204 false bs (wR 5 [(0, .slice d b.length c), (26, .slice q g.1.length v), (27, .string g.2.1), (28, iv g.2.2), (29, iv m.1), (30, .bool m.2), (209, .bool (!(m.2 == an.2)))] x ?_)
  rcases gx_bif hm with ⟨bt, hm⟩ | ⟨bt, hm⟩
  ·refine wK 209 true bt (wR 20 [(0, .slice d b.length c), (229, .bool true)] x (W_nil ?_))
   obtain rfl := Option.some.inj hm
   exact N_meet fun a ha => ⟨F.pk [], ha.s⟩
  refine wK 209 false bt (wR 2 [(0, .slice d b.length c), (26, .slice q g.1.length v), (27, .string g.2.1), (28, iv g.2.2), (29, iv m.1), (209, .bool false), (211, .bool m.2)] x ?_)
  rcases gx_bif hm with ⟨bu, hm⟩ | ⟨bu, hm⟩
  ·refine wK 211 true bu (wR 2 [(0, .slice d b.length c), (26, .slice q g.1.length v), (27, .string g.2.1), (28, iv g.2.2), (29, iv m.1), (209, .bool false), (211, .bool true), (212, .slice q g.1.length v), (213, iv m.1)] x ?_)
   obtain ⟨c1, b1, hm⟩ := gx_bind hm
   refine wV (elemP q (m.1.toNat * 4)) x (eI (Q.rd F 0 (by kernel_rfl)) rfl b1) (wV (elemP q (m.1.toNat * 4 + 2)) x (eF 2 (m.1.toNat * 4) 2 (Q.rd F 0 (by kernel_rfl)) b1) (wV (.string c1.Kind) x (eE false 1 2 (m.1.toNat * 4 + 2) (Q.rd F 0 (by kernel_rfl)) b1) (wR 3 [(0, .slice d b.length c), (26, .slice q g.1.length v), (28, iv g.2.2), (29, iv m.1), (209, .bool false), (211, .bool true), (219, .bool (!(c1.Kind.toList == g.2.1.toList)))] x ?_)))
   rcases gx_bif hm with ⟨bv, hm⟩ | ⟨bv, hm⟩
   ·refine wK 219 true bv (wR 10 [(0, .slice d b.length c), (229, .bool true)] x (W_nil ?_))
    obtain rfl := Option.some.inj hm
    exact N_meet fun a ha => ⟨F.pk [], ha.s⟩
   refine wK 219 false bv (wR 2 [(0, .slice d b.length c), (28, iv g.2.2), (209, .bool false), (211, .bool true), (219, .bool false), (220, .slice q g.1.length v), (221, iv m.1)] x ?_)
   obtain ⟨c2, b2, hm⟩ := gx_bind hm
   refine wV (elemP q (m.1.toNat * 4)) x (eI (Q.rd F 0 (by kernel_rfl)) rfl b2) (wV (elemP q (m.1.toNat * 4 + 3)) x (eF 3 (m.1.toNat * 4) 3 (Q.rd F 0 (by kernel_rfl)) b2) (wV (iv c2.Value) x (eE false 1 3 (m.1.toNat * 4 + 3) (Q.rd F 0 (by kernel_rfl)) b2) (wR 5 [(0, .slice d b.length c), (229, .bool (decide (c2.Value < g.2.2)))] x (W_nil ?_))))
   obtain rfl := Option.some.inj hm
   exact N_meet fun a ha => ⟨F.pk [], ha.s⟩
  refine wK 211 false bu (wR 18 [(0, .slice d b.length c), (229, .bool false)] x (W_nil ?_))
  obtain rfl := Option.some.inj hm
  exact N_meet fun a ha => ⟨F.pk [], ha.s⟩
 intro f8 ce ⟨ba, d8⟩
 refine N_use d8 ?_
 have hm := ef
 refine N_then ?_
 rcases gx_bif hm with ⟨bw, hm⟩ | ⟨bw, hm⟩
 ·refine gT bw (G_seq (G_region (wR 1 [(2, .bool false)] ce (W_nil (N_then (G_ret (N_then_ret ?_)))))))
  obtain rfl := Option.some.inj hm
  exact N_ret [.bool false] (rC RVs_nil) (⟨rfl, ba.pk []⟩)
 refine gF bw (G_skip (N_then (G_seq (G_region (wR 1 [(230, .slice d b.length c)] ce ?_)))))
 obtain ⟨O, ff, hm⟩ := gx_bind hm
 refine wC 50 #[.slice d b.length c] ((c_s_DrawLongestGap ce b d c (ac.mem0 ba) ff).mono ?_)
 rintro e_ cf ⟨N, K, gn, rfl, cv, dn⟩
 have cn := ba.call dn
 refine ⟨_, rfl, ?_⟩
 refine wR 1 [(33, .slice N O.length K)] cf (W_nil (N_then (G_seq (G_region (wR 1 [(33, .slice N O.length K), (233, .slice N O.length K)] cf ?_)))))
 obtain ⟨C, fg, hm⟩ := gx_bind hm
 refine wC 23 #[.slice N O.length K] ((c_i_LongestGap cf O N K (cv.rd cn 0 (by kernel_rfl)) fg).mono ?_)
 rintro e_ cg ⟨rfl, dp⟩
 have co := cn.call0 dp
 refine ⟨_, rfl, ?_⟩
 refine wR 7 [(33, .slice N O.length K), (34, iv C.1), (35, iv C.2.1), (36, .bool C.2.2)] cg (W_nil (N_then (G_seq (G_region (wR 1 [(34, iv C.1), (35, iv C.2.1), (36, .bool C.2.2), (239, .slice N O.length K)] cg ?_)))))
 obtain ⟨P, fh, hm⟩ := gx_bind hm
 refine wC 22 #[.slice N O.length K] ((c_s_LongestGap cg O N K (cv.rd co 0 (by kernel_rfl)) fh).mono ?_)
 rintro e_ ad ⟨rfl, dq⟩
 have bb := co.call0 dq
 refine ⟨_, rfl, ?_⟩
 refine wR 7 [(34, iv C.1), (35, iv C.2.1), (36, .bool C.2.2), (37, iv P.1), (38, iv P.2.1), (39, .bool P.2.2)] ad (W_nil (N_then (G_seq ?_)))
 obtain ⟨cy, eu, eg⟩ := gx_bind hm
 refine G_meet (fun a w' => Mem [] w w' [] ∧ Sat Try.f12.ntmps [(2, .bool cy)] a) ?_ ?_
 ·have hm := eu
  refine G_region (wR 4 [(35, iv C.2.1), (36, .bool C.2.2), (38, iv P.2.1), (39, .bool P.2.2), (247, .bool (C.1 == P.1))] ad ?_)
  rcases gx_bif hm with ⟨bx, hm⟩ | ⟨bx, hm⟩
  ·refine wK 247 true bx (wR 5 [(36, .bool C.2.2), (39, .bool P.2.2), (252, .bool (C.2.1 == P.2.1))] ad ?_)
   rcases gx_bif hm with ⟨bz, hm⟩ | ⟨bz, hm⟩
   ·refine wK 252 true bz (wR 5 [(2, .bool (C.2.2 == P.2.2))] ad (W_nil ?_))
    obtain rfl := Option.some.inj hm
    exact N_meet fun a ha => ⟨bb.pk [], ha.s⟩
   refine wK 252 false bz (wR 5 [(2, .bool false)] ad (W_nil ?_))
   obtain rfl := Option.some.inj hm
   exact N_meet fun a ha => ⟨bb.pk [], ha.s⟩
  refine wK 247 false bx (wR 10 [(2, .bool false)] ad (W_nil ?_))
  obtain rfl := Option.some.inj hm
  exact N_meet fun a ha => ⟨bb.pk [], ha.s⟩
 intro f9 gr ⟨d1, d9⟩
 refine N_use d9 ?_
 have hm := eg
 refine N_then (G_ret ?_)
 obtain rfl := Option.some.inj hm
 exact N_ret [.bool cy] (rC RVs_nil) (⟨rfl, d1.pk []⟩)
end Go.Proofs.Ytfcebglkdfadcaa
