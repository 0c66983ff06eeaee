/- The walks, printed by program: whenever the model gives r, the call returns r. Part 3. -/
import Derived.Test.YtlfligjpmodefaaM
import Derived.Test.YtlfligjpmodefaaGxZ
import Derived.Test.YtlfligjpmodefaaProg
import Derived.Test.YtlfligjpmodefaaSh
import Derived.Test.YtlfligjpmodefaaC2
set_option linter.unusedVariables false
set_option maxRecDepth 100000
set_option maxHeartbeats 4000000
namespace Go.Proofs.Ytlfligjpmodefaa
open Go.Gx
theorem c_i_TakeGiven (w : World) (k : List Int) (t : Option Addr) (q : Nat) (an : rdS Gx.encI w k t q) (v : List Balloon) (y : Option Addr) (x : Nat) (ao : rdD deepBalloon w v y x) (h : Int) {r : (List Int) × (List Balloon) × Int × Bool} (hm : M.i_TakeGiven k v h = some r) :
  Calls Try.prog 28 #[.slice t k.length q, .slice y v.length x, iv h] w fun e w' => ∃ (a3 : Option Addr) (al : Nat) (a6 : Seg), ∃ (a4 : Option Addr) (am : Nat) (a7 : Seg) (a8 : Seg), e = .returned (.tuple #[.slice a3 r.1.length al, .slice a4 r.2.1.length am, iv r.2.2.1, .bool r.2.2.2]) ∧ ownS Gx.encI r.1 a3 al a6 ∧ ownD deepBalloon r.2.1 a4 am a7 a8 ∧ Mem [] w w' [a6, a7, a8] := by
 unfold M.i_TakeGiven at hm
 refine cE Try.func28 ?_
 have M0 := Mem.refl [] w
 refine G_seq (G_region (wR 4 [(0, .slice t k.length q), (1, .slice y v.length x), (2, iv h)] w (W_nil (N_then (G_seq (G_seq ?_))))))
 obtain ⟨cm, b0, bz⟩ := gx_bind hm
 refine G_meet (fun a w' => Mem [] w w' [] ∧ Sat Try.f28.ntmps [(0, .slice t k.length q), (1, .slice y v.length x), (2, iv h), (24, .bool cm)] a) ?_ ?_
 ·have hm := b0
  refine G_region (wR 2 [(0, .slice t k.length q), (1, .slice y v.length x), (2, iv h), (16, .slice t k.length q), (17, .slice y v.length x)] w ?_)
  obtain ⟨cp, b8, hm⟩ := gx_bind hm
  refine wC 17 #[.slice t k.length q, .slice y v.length x] ((c_i_AreBalloons w k t q (an.mem0 M0) v y x (ao.mem0 M0) b8).mono ?_)
  rintro e_ O ⟨rfl, bc⟩
  have ah := M0.call0 bc
  refine ⟨_, rfl, ?_⟩
  refine wR 2 [(0, .slice t k.length q), (1, .slice y v.length x), (2, iv h), (20, .bool (!cp))] O ?_
  rcases gx_bif hm with ⟨X, hm⟩ | ⟨X, hm⟩
  ·refine wK 20 true X (wR 4 [(0, .slice t k.length q), (1, .slice y v.length x), (2, iv h), (24, .bool true)] O (W_nil ?_))
   obtain rfl := Option.some.inj hm
   exact N_meet fun a ha => ⟨ah.pk [], ha.s⟩
  refine wK 20 false X (wR 1 [(0, .slice t k.length q), (1, .slice y v.length x), (2, iv h), (20, .bool false), (21, iv h)] O ?_)
  obtain ⟨cq, b9, hm⟩ := gx_bind hm
  refine wC 50 #[iv h] ((c_i_isGuest O h b9).mono ?_)
  rintro e_ ct ⟨rfl, bd⟩
  have bi := ah.call0 bd
  refine ⟨_, rfl, ?_⟩
  refine wR 2 [(0, .slice t k.length q), (1, .slice y v.length x), (2, iv h), (24, .bool (!cq))] ct (W_nil ?_)
  obtain rfl := Option.some.inj hm
  exact N_meet fun a ha => ⟨bi.pk [], ha.s⟩
 intro cz ae ⟨S, bs⟩
 refine N_use bs ?_
 have hm := bz
 refine N_then ?_
 rcases gx_bif hm with ⟨Y, hm⟩ | ⟨Y, hm⟩
 ·refine gT Y (G_seq (G_region (wR 4 [(6, .slice none 0 0), (7, .slice none 0 0), (8, iv 0), (9, .bool false)] ae (W_nil (N_then (G_ret (N_then_ret ?_)))))))
  obtain rfl := Option.some.inj hm
  exact N_ret [.slice none 0 0, .slice none 0 0, iv 0, .bool false] (rC (rC (rC (rC RVs_nil)))) (⟨none, 0, [], none, 0, [], [], rfl, ownS_nil, ownD_nil, S.pk [100000, 100001, 100002]⟩)
 refine gF Y (G_skip (N_then (G_seq (G_region (wR 1 [(0, .slice t k.length q), (1, .slice y v.length x), (2, iv h), (25, .slice t k.length q)] ae ?_)))))
 obtain ⟨n, ca, hm⟩ := gx_bind hm
 refine wC 62 #[.slice t k.length q] ((c_i_copyInts ae k t q (an.mem0 S) ca).mono ?_)
 rintro e_ ba ⟨m, o, H, rfl, av, be⟩
 have ai := S.call be
 refine ⟨_, rfl, ?_⟩
 refine wR 1 [(0, .slice t k.length q), (2, iv h), (26, .slice m n.length o), (27, .slice y v.length x)] ba ?_
 obtain ⟨c, cb, hm⟩ := gx_bind hm
 refine wC 60 #[.slice y v.length x] ((c_i_newBalloons ba v y x (ao.mem0 ai) cb).mono ?_)
 rintro e_ bb ⟨g, j, L, ad, rfl, b1, bf⟩
 have bj := ai.call bf
 refine ⟨_, rfl, ?_⟩
 refine wR 2 [(0, .slice t k.length q), (2, iv h), (10, .slice m n.length o), (11, .slice g c.length j)] bb (W_nil (N_then (G_seq (G_seq (G_region (wR 3 [(2, iv h), (10, .slice m n.length o), (11, .slice g c.length j), (30, iv (k.length : Int)), (31, iv 0)] bb (W_nil (N_then ?_))))))))
 obtain ⟨cn, ch, ar⟩ := gx_bind hm
 refine G_meet (fun a w' => ∃ (az : Unit), cn = .inl az ∧ Mem [] w w' [] ∧ Sat Try.f28.ntmps [] a) ?_ ?_
 ·refine G_block (G_while (σ := Int) (ρ := (Unit) ⊕ ((List Int) × (List Balloon) × Int × Bool)) (fun f a w' => Mem [] w w' [H, L, ad] ∧ Sat Try.f28.ntmps [(2, iv h), (10, .slice m n.length o), (11, .slice g c.length j), (30, iv (k.length : Int)), (31, iv f)] a) ch (fun a ha => ⟨bj.pk [0, 1, 2], ha.s⟩) ?_)
  clear hm
  intro f da hm aw c0 af ⟨aj, bt⟩
  refine G_use bt (G_seq (G_region (wR 1 [(2, iv h), (10, .slice m n.length o), (11, .slice g c.length j), (30, iv (k.length : Int)), (31, iv f), (32, .bool (decide (f < (k.length : Int))))] af (W_nil (N_then (G_seq ?_))))))
  rcases gx_bif hm with ⟨Z, hm⟩ | ⟨Z, hm⟩
  ·refine gT Z (G_skip (N_then (G_seq (G_block (G_seq (G_region (wR 2 [(2, iv h), (10, .slice m n.length o), (11, .slice g c.length j), (12, iv f), (30, iv (k.length : Int)), (31, iv f)] af (W_nil (N_then (G_seq (G_region (wR 3 [(2, iv h), (10, .slice m n.length o), (11, .slice g c.length j), (12, iv f), (30, iv (k.length : Int)), (31, iv f), (34, .slice g c.length j), (35, iv (c.length : Int)), (36, iv 0)] af (W_nil (N_then ?_))))))))))))))
   obtain ⟨co, ci, au⟩ := gx_bind hm
   refine G_meet (fun a w' => ∃ (a0 : Unit), co = .inl a0 ∧ Mem [] w w' [H, L, ad] ∧ Sat Try.f28.ntmps [(2, iv h), (10, .slice m n.length o), (11, .slice g c.length j), (30, iv (k.length : Int)), (31, iv f)] a) ?_ ?_
   ·refine G_block (G_while (σ := Int) (ρ := (Unit) ⊕ ((List Int) × (List Balloon) × Int × Bool)) (fun l a w' => Mem [] w w' [H, L, ad] ∧ Sat Try.f28.ntmps [(2, iv h), (10, .slice m n.length o), (11, .slice g c.length j), (12, iv f), (30, iv (k.length : Int)), (31, iv f), (34, .slice g c.length j), (35, iv (c.length : Int)), (36, iv l)] a) ci (fun a ha => ⟨aj.pk [0, 1, 2], ha.s⟩) ?_)
    clear hm
    intro l db hm ax c1 P ⟨K, bu⟩
    refine G_use bu (G_seq (G_region (wR 1 [(2, iv h), (10, .slice m n.length o), (11, .slice g c.length j), (12, iv f), (30, iv (k.length : Int)), (31, iv f), (34, .slice g c.length j), (35, iv (c.length : Int)), (36, iv l), (37, .bool (decide (l < (c.length : Int))))] P (W_nil (N_then (G_seq ?_))))))
    rcases gx_bif hm with ⟨aa, hm⟩ | ⟨aa, hm⟩
    ·refine gT aa (G_skip (N_then (G_seq (G_block (G_seq (G_region (wR 1 [(2, iv h), (10, .slice m n.length o), (11, .slice g c.length j), (12, iv f), (30, iv (k.length : Int)), (31, iv f), (34, .slice g c.length j), (35, iv (c.length : Int)), (36, iv l), (38, iv l)] P ?_)))))))
     obtain ⟨b, ck, hm⟩ := gx_bind hm
     obtain ⟨dd, E, I, aq⟩ := id b1
     obtain ⟨d, D⟩ := gxIdx_fst E ck
     refine wV (elemP g (l.toNat * 3)) P (eI (I.rd K 1 (by kernel_rfl)) (len_fst E) D) (wV (.agg #[iv b.Guest, iv b.Goal, .slice ((d 0).1) b.Gave.length ((d 0).2)]) P (eE true 3 0 (l.toNat * 3) (I.rd K 1 (by kernel_rfl)) D) (wN (.cells ⟨[iv 0, iv 0, .slice none 0 0]⟩ 50 (0, 0)) K ?_))
     intro z cu bk
     refine wR 1 [(2, iv h), (10, .slice m n.length o), (11, .slice g c.length j), (12, iv f), (13, iv l), (14, pB z 0), (30, iv (k.length : Int)), (31, iv f), (34, .slice g c.length j), (35, iv (c.length : Int)), (36, iv l), (40, .agg #[iv b.Guest, iv b.Goal, .slice ((d 0).1) b.Gave.length ((d 0).2)])] cu (wS true 3 0 (.agg #[iv b.Guest, iv b.Goal, .slice ((d 0).1) b.Gave.length ((d 0).2)]) 3 [iv b.Guest, iv b.Goal, .slice ((d 0).1) b.Gave.length ((d 0).2)] bk rfl ?_)
     intro Q T
     refine W_nil (N_then (G_seq (G_region (wR 1 [(2, iv h), (10, .slice m n.length o), (11, .slice g c.length j), (12, iv f), (13, iv l), (14, pB z 0), (30, iv (k.length : Int)), (31, iv f), (34, .slice g c.length j), (35, iv (c.length : Int)), (36, iv l), (41, pB z 2)] Q (wV (.slice ((d 0).1) b.Gave.length ((d 0).2)) Q (eL false 1 2 (T.blk 3 rfl)) (wR 1 [(2, iv h), (10, .slice m n.length o), (11, .slice g c.length j), (12, iv f), (13, iv l), (14, pB z 0), (30, iv (k.length : Int)), (31, iv f), (34, .slice g c.length j), (35, iv (c.length : Int)), (36, iv l), (42, .slice ((d 0).1) b.Gave.length ((d 0).2)), (43, iv f)] Q ?_))))))
     obtain ⟨A, cc, hm⟩ := gx_bind hm
     refine wC 63 #[.slice ((d 0).1) b.Gave.length ((d 0).2), iv f] ((c_slices_Index_63 Q b.Gave ((d 0).1) ((d 0).2) ((aq.rd T 2 (by kernel_rfl)).at_ D 0 ⟨Int, Gx.encI, b.Gave, (d 0).1, (d 0).2⟩ (by kernel_rfl)) f cc).mono ?_)
     rintro e_ C ⟨rfl, bg⟩
     have U := T.call0 bg
     refine ⟨_, rfl, ?_⟩
     refine wR 1 [(2, iv h), (10, .slice m n.length o), (11, .slice g c.length j), (12, iv f), (13, iv l), (14, pB z 0), (15, iv A), (30, iv (k.length : Int)), (31, iv f), (34, .slice g c.length j), (35, iv (c.length : Int)), (36, iv l)] C (W_nil (N_then (G_seq (G_region (wR 2 [(2, iv h), (10, .slice m n.length o), (11, .slice g c.length j), (12, iv f), (13, iv l), (14, pB z 0), (15, iv A), (30, iv (k.length : Int)), (31, iv f), (34, .slice g c.length j), (35, iv (c.length : Int)), (36, iv l), (46, .bool (decide (A ≥ 0)))] C (W_nil (N_then ?_)))))))
     rcases gx_bif hm with ⟨ab, hm⟩ | ⟨ab, hm⟩
     ·refine gT ab (G_seq (G_region (wR 3 [(2, iv h), (10, .slice m n.length o), (11, .slice g c.length j), (12, iv f), (15, iv A), (47, .slice g c.length j), (48, iv l), (49, pB z 2)] C (wV (.slice ((d 0).1) b.Gave.length ((d 0).2)) C (eL false 1 2 (U.blk 3 rfl)) (wR 3 [(2, iv h), (10, .slice m n.length o), (11, .slice g c.length j), (12, iv f), (47, .slice g c.length j), (48, iv l), (50, .slice ((d 0).1) b.Gave.length ((d 0).2)), (51, iv A), (53, iv (w64 (A + 1)))] C ?_)))))
      obtain ⟨F, cr, G, ce, bx, b7⟩ := aq.lens (gxIdx_spec D).2
      have bl := U.cut 2 (sa := F) (sb := cr) (sc := G) ce (by kernel_rfl)
      obtain ⟨a9, a5, cf, b2, c8⟩ := bx
      have V := bl.cut 4 (sa := []) (sb := a9) (sc := a5) cf (by kernel_rfl)
      obtain ⟨u, cd, hm⟩ := gx_bind hm
      refine wC 64 #[.slice ((d 0).1) b.Gave.length ((d 0).2), iv A, iv (w64 (A + 1))] ((c_slices_Delete_64 C b.Gave ((d 0).1) ((d 0).2) a9 b2 A (w64 (A + 1)) (V.hasPick [6]) (V.nodupPick [6] (by kernel_rfl)) cd).mono ?_)
      rintro e_ ag ⟨J, c9, c4, rfl, b3, ac, cj, bh⟩
      obtain ⟨B, c6, rfl, rfl, cg⟩ := cj
      have bm := V.callF' [6] [0, 1, 2, 3, 4, 5, 7] (by kernel_rfl) bh
      refine ⟨_, rfl, ?_⟩
      refine wX 50 (.slice ((d 0).1) b.Gave.length ((d 0).2)) (.slice ((d 0).1) u.2.length ((d 0).2)) (by first | rw [ac] | rw [ac]) ?_
      have W : Mem [] w ag [H, L, F, [(z, .cells ⟨[iv b.Guest, iv b.Goal, .slice ((d 0).1) u.2.length ((d 0).2)]⟩ 50 (0, 0))], [], G, a5, J] := by rw [ac]; exact bm
      obtain ⟨dc, cl, hm⟩ := gx_bind hm
      obtain ⟨c5, ap⟩ := gxIdx_fst E cl
      refine wV (elemP g (l.toNat * 3)) ag (eI (I.rd W 1 (by kernel_rfl)) (len_fst E) ap) (wV (elemP g (l.toNat * 3 + 2)) ag (eF 2 (l.toNat * 3) 2 (I.rd W 1 (by kernel_rfl)) ap) (wE false 1 l.toNat 2 (l.toNat * 3 + 2) (b, d) ((⟨b.Guest, b.Goal, u.1⟩ : Balloon), (plOf [((subP ((d 0).1) B.toNat ((d 0).2) 1), (((d 0).2) - B.toNat))])) (.slice (subP ((d 0).1) B.toNat ((d 0).2) 1) u.1.length (((d 0).2) - B.toNat)) 1 W I (gxIdx_spec D).2 ?_))
      intro R N b4 bn
      have bo : Mem [] w R [H, N, [(z, .cells ⟨[iv b.Guest, iv b.Goal, .slice ((d 0).1) u.2.length ((d 0).2)]⟩ 50 (0, 0))], [], F, J, G] := bn.pk [0, 1, 3, 4, 2, 7, 5]
      have ak : Mem [] w R [H, N, [(z, .cells ⟨[iv b.Guest, iv b.Goal, .slice ((d 0).1) u.2.length ((d 0).2)]⟩ 50 (0, 0))], [], (F ++ ((J ++ []) ++ G))] := bo.regroup (by simp)
      have b5 : ownD deepBalloon (c.set l.toNat (⟨b.Guest, b.Goal, u.1⟩ : Balloon)) g j N (F ++ ((J ++ []) ++ G)) := ⟨_, set_fst E l.toNat ((⟨b.Guest, b.Goal, u.1⟩ : Balloon), (plOf [((subP ((d 0).1) B.toNat ((d 0).2) 1), (((d 0).2) - B.toNat))])), b4, b7 ((⟨b.Guest, b.Goal, u.1⟩ : Balloon), (plOf [((subP ((d 0).1) B.toNat ((d 0).2) 1), (((d 0).2) - B.toNat))])) _ (ownI_cons (i := ⟨Int, Gx.encI, _, _, _⟩) (b3.partM cg) ownI_nil)⟩
      have c7 := gxIdx_put (⟨b.Guest, b.Goal, u.1⟩ : Balloon) (gxIdx_down E D)
      refine wX 11 (.slice g c.length j) (.slice g (c.set l.toNat (⟨b.Guest, b.Goal, u.1⟩ : Balloon)).length j) (by rw [@List.length_set _ c l.toNat (⟨b.Guest, b.Goal, u.1⟩ : Balloon)]) (wX 47 (.slice g c.length j) (.slice g (c.set l.toNat (⟨b.Guest, b.Goal, u.1⟩ : Balloon)).length j) (by rw [@List.length_set _ c l.toNat (⟨b.Guest, b.Goal, u.1⟩ : Balloon)]) (W_nil (N_then (G_seq (G_region (wR 3 [(10, .slice m n.length o), (11, .slice g (c.set l.toNat (⟨b.Guest, b.Goal, u.1⟩ : Balloon)).length j), (12, iv f), (57, .slice m n.length o), (58, iv f), (59, iv h)] R ?_))))))
      obtain ⟨cy, ay, hm⟩ := gx_bind hm
      refine wV (elemP m (f.toNat * 1)) R (eI (av.rd ak 0 (by kernel_rfl)) rfl ay) (wE false 1 f.toNat 0 (f.toNat * 1) cy h (iv h) 0 ak av (gxIdx_spec ay).2 ?_)
      intro cv cs b6 bp
      refine wX 10 (.slice m n.length o) (.slice m (n.set f.toNat h).length o) (by rw [@List.length_set _ n f.toNat h]) (wX 57 (.slice m n.length o) (.slice m (n.set f.toNat h).length o) (by rw [@List.length_set _ n f.toNat h]) (W_nil (N_then (G_seq (G_region (wR 7 [(6, .slice m (n.set f.toNat h).length o), (7, .slice g (c.set l.toNat (⟨b.Guest, b.Goal, u.1⟩ : Balloon)).length j), (8, iv f), (9, .bool true)] cv (W_nil (N_then (G_ret (N_block_ret (N_then_ret (N_then_ret ?_))))))))))))
      obtain rfl := Option.some.inj hm
      obtain rfl := ax _ rfl
      have hm := au; simp only [Sum.elim_inr] at hm
      refine N_block_ret (N_meet_ret (N_block_ret (N_then_ret (N_then_ret ?_))))
      obtain rfl := Option.some.inj hm
      obtain rfl := aw _ rfl
      have hm := ar; simp only [Sum.elim_inr] at hm
      refine N_block_ret (N_meet_ret (N_then_ret ?_))
      obtain rfl := Option.some.inj hm
      exact N_ret [.slice m (n.set f.toNat h).length o, .slice g (c.set l.toNat (⟨b.Guest, b.Goal, u.1⟩ : Balloon)).length j, iv f, .bool true] (rC (rC (rC (rC RVs_nil)))) (⟨m, o, cs, g, j, N, (F ++ ((J ++ []) ++ G)), rfl, b6, b5, bp.pk [0, 1, 4]⟩)
     refine gF ab (G_skip (N_block (N_then (G_region (wR 2 [(2, iv h), (10, .slice m n.length o), (11, .slice g c.length j), (12, iv f), (30, iv (k.length : Int)), (31, iv f), (34, .slice g c.length j), (35, iv (c.length : Int)), (36, iv (w64 (l + 1)))] C (W_nil ?_))))))
     obtain rfl := Option.some.inj hm
     exact N_loop fun a ha => ⟨_, rfl, U.pk [0, 1, 2], ha.s⟩
    refine gF aa (G_exit (N_then_exit (N_then_exit (N_block_eq ?_))))
    obtain rfl := Option.some.inj hm
    obtain rfl := ax _ rfl
    exact N_meet fun a ha => ⟨_, rfl, K.pk [0, 1, 2], ha.s⟩
   intro c2 cw ⟨a0, hout_, bq, bv⟩
   refine N_use bv ?_
   subst hout_
   have hm := au; simp only [Sum.elim_inl] at hm
   refine N_block (N_then (G_region (wR 2 [(2, iv h), (10, .slice m n.length o), (11, .slice g c.length j), (30, iv (k.length : Int)), (31, iv (w64 (f + 1)))] cw (W_nil ?_))))
   obtain rfl := Option.some.inj hm
   exact N_loop fun a ha => ⟨_, rfl, bq.pk [0, 1, 2], ha.s⟩
  refine gF Z (G_exit (N_then_exit (N_then_exit (N_block_eq ?_))))
  obtain rfl := Option.some.inj hm
  obtain rfl := aw _ rfl
  exact N_meet fun a ha => ⟨_, rfl, aj.pk [], ha.s⟩
 intro c3 cx ⟨az, hout_, br, bw⟩
 refine N_use bw ?_
 subst hout_
 have hm := ar; simp only [Sum.elim_inl] at hm
 refine N_then (G_seq (G_region (wR 4 [(6, .slice none 0 0), (7, .slice none 0 0), (8, iv 0), (9, .bool false)] cx (W_nil (N_then (G_ret ?_))))))
 obtain rfl := Option.some.inj hm
 exact N_ret [.slice none 0 0, .slice none 0 0, iv 0, .bool false] (rC (rC (rC (rC RVs_nil)))) (⟨none, 0, [], none, 0, [], [], rfl, ownS_nil, ownD_nil, br.pk [100000, 100001, 100002]⟩)
theorem c_l_FnExactTakeGiven (w : World) (l : List Int) (n : Option Addr) (m : Nat) (ah : rdS Gx.encI w l n m) (i : List Balloon) (k : Option Addr) (j : Nat) (O : rdD deepBalloon w i k j) (o : Int) {r : Bool} (hm : M.l_FnExactTakeGiven l i o = some r) :
  Calls Try.prog 6 #[.slice n l.length m, .slice k i.length j, iv o] w fun e w' => e = .returned (.bool r) ∧ Mem [] w w' [] := by
 unfold M.l_FnExactTakeGiven at hm
 refine cE Try.func6 ?_
 have M0 := Mem.refl [] w
 refine G_seq (G_region (wR 1 [(0, .slice n l.length m), (1, .slice k i.length j), (2, iv o)] w (W_nil (N_then (G_seq (G_seq (G_region (wR 3 [(0, .slice n l.length m), (1, .slice k i.length j), (2, iv o), (27, .bool (decide ((l.length : Int) > 1048576)))] w (W_nil (N_then ?_))))))))))
 rcases gx_bif hm with ⟨bn, hm⟩ | ⟨bn, hm⟩
 ·refine gT bn (G_seq (G_region (wR 1 [(6, .bool true)] w (W_nil (N_then (G_ret (N_then_ret ?_)))))))
  obtain rfl := Option.some.inj hm
  exact N_ret [.bool true] (rC RVs_nil) (⟨rfl, M0.pk []⟩)
 refine gF bn (G_skip (N_then (G_seq (G_region (wR 1 [(0, .slice n l.length m), (1, .slice k i.length j), (2, iv o), (7, iv 1048576)] w (W_nil (N_then (G_seq (G_region (wR 2 [(0, .slice n l.length m), (1, .slice k i.length j), (2, iv o), (7, iv 1048576), (28, .slice k i.length j), (29, iv 1048576)] w ?_))))))))))
 obtain ⟨da, ey, hm⟩ := gx_bind hm
 refine wC 13 #[.slice k i.length j, iv 1048576] ((c_l_szBalloonS w i k j (O.mem0 M0) 1048576 ey).mono ?_)
 rintro e_ P ⟨rfl, dn⟩
 have a0 := M0.call0 dn
 refine ⟨_, rfl, ?_⟩
 refine wR 1 [(0, .slice n l.length m), (1, .slice k i.length j), (2, iv o), (7, iv da)] P (W_nil (N_then (G_seq (G_seq (G_region (wR 2 [(0, .slice n l.length m), (1, .slice k i.length j), (2, iv o), (32, .bool (decide (da < 0)))] P (W_nil (N_then ?_))))))))
 rcases gx_bif hm with ⟨bo, hm⟩ | ⟨bo, hm⟩
 ·refine gT bo (G_seq (G_region (wR 1 [(6, .bool true)] P (W_nil (N_then (G_ret (N_then_ret ?_)))))))
  obtain rfl := Option.some.inj hm
  exact N_ret [.bool true] (rC RVs_nil) (⟨rfl, a0.pk []⟩)
 refine gF bo (G_skip (N_then (G_seq (G_region (wR 1 [(0, .slice n l.length m), (1, .slice k i.length j), (2, iv o), (34, .slice n l.length m)] P ?_)))))
 obtain ⟨an, ez, hm⟩ := gx_bind hm
 refine wC 15 #[.slice n l.length m] ((c_l_toIntS P l n m (ah.mem0 a0) ez).mono ?_)
 rintro e_ dj ⟨ak, ae, gc, rfl, em, dp⟩
 have cx := a0.call dp
 refine ⟨_, rfl, ?_⟩
 refine wR 1 [(0, .slice n l.length m), (1, .slice k i.length j), (2, iv o), (35, .slice ak an.length ae), (36, .slice k i.length j)] dj ?_
 obtain ⟨cj, e0, hm⟩ := gx_bind hm
 refine wC 16 #[.slice k i.length j] ((c_l_toBalloonS dj i k j (O.mem0 cx) e0).mono ?_)
 rintro e_ dk ⟨ch, bl, gd, ge, rfl, en, dq⟩
 have a3 := cx.call dq
 refine ⟨_, rfl, ?_⟩
 refine wR 1 [(0, .slice n l.length m), (1, .slice k i.length j), (2, iv o), (35, .slice ak an.length ae), (37, .slice ch cj.length bl), (38, iv o)] dk ?_
 obtain ⟨b, e1, hm⟩ := gx_bind hm
 refine wC 27 #[.slice ak an.length ae, .slice ch cj.length bl, iv o] ((c_s_TakeGiven dk an ak ae (em.rd a3 0 (by kernel_rfl)) cj ch bl (en.rd a3 1 (by kernel_rfl) 2 (by kernel_rfl)) o e1).mono ?_)
 rintro e_ cp ⟨x, v, dd, u, t, de, df, rfl, cb, cc, dr⟩
 have cy := a3.call dr
 refine ⟨_, rfl, ?_⟩
 refine wR 9 [(0, .slice n l.length m), (1, .slice k i.length j), (2, iv o), (8, .slice x b.1.length v), (9, .slice u b.2.1.length t), (10, iv b.2.2.1), (11, .bool b.2.2.2)] cp (W_nil (N_then (G_seq (G_region (wR 1 [(0, .slice n l.length m), (1, .slice k i.length j), (2, iv o), (8, .slice x b.1.length v), (9, .slice u b.2.1.length t), (10, iv b.2.2.1), (11, .bool b.2.2.2), (44, .slice n l.length m)] cp ?_)))))
 obtain ⟨D, e2, hm⟩ := gx_bind hm
 refine wC 15 #[.slice n l.length m] ((c_l_toIntS cp l n m (ah.mem0 cy) e2).mono ?_)
 rintro e_ cq ⟨B, z, dg, rfl, cd, ds⟩
 have cz := cy.call ds
 refine ⟨_, rfl, ?_⟩
 refine wR 1 [(0, .slice n l.length m), (1, .slice k i.length j), (2, iv o), (8, .slice x b.1.length v), (9, .slice u b.2.1.length t), (10, iv b.2.2.1), (11, .bool b.2.2.2), (12, .slice B D.length z)] cq (W_nil (N_then (G_seq (G_region (wR 1 [(0, .slice n l.length m), (1, .slice k i.length j), (2, iv o), (8, .slice x b.1.length v), (9, .slice u b.2.1.length t), (10, iv b.2.2.1), (11, .bool b.2.2.2), (12, .slice B D.length z), (46, .slice k i.length j)] cq ?_)))))
 obtain ⟨E, e3, hm⟩ := gx_bind hm
 refine wC 16 #[.slice k i.length j] ((c_l_toBalloonS cq i k j (O.mem0 cz) e3).mono ?_)
 rintro e_ cr ⟨C, A, dh, di, rfl, ce, dt⟩
 have a4 := cz.call dt
 refine ⟨_, rfl, ?_⟩
 refine wR 1 [(0, .slice n l.length m), (1, .slice k i.length j), (2, iv o), (8, .slice x b.1.length v), (9, .slice u b.2.1.length t), (10, iv b.2.2.1), (11, .bool b.2.2.2), (12, .slice B D.length z), (13, .slice C E.length A)] cr (W_nil (N_then (G_seq (G_region (wR 3 [(0, .slice n l.length m), (1, .slice k i.length j), (2, iv o), (8, .slice x b.1.length v), (9, .slice u b.2.1.length t), (10, iv b.2.2.1), (11, .bool b.2.2.2), (12, .slice B D.length z), (13, .slice C E.length A), (49, .slice B D.length z), (50, .slice C E.length A), (51, iv o)] cr ?_)))))
 obtain ⟨c, e4, hm⟩ := gx_bind hm
 refine wC 28 #[.slice B D.length z, .slice C E.length A, iv o] ((c_i_TakeGiven cr D B z (cd.rd a4 6 (by kernel_rfl)) E C A (ce.rd a4 7 (by kernel_rfl) 8 (by kernel_rfl)) o e4).mono ?_)
 rintro e_ cs ⟨h, g, cm, f, d, cn, co, rfl, cf, cg, du⟩
 have a5 := a4.call du
 refine ⟨_, rfl, ?_⟩
 refine wR 9 [(0, .slice n l.length m), (1, .slice k i.length j), (2, iv o), (8, .slice x b.1.length v), (9, .slice u b.2.1.length t), (10, iv b.2.2.1), (11, .bool b.2.2.2), (12, .slice B D.length z), (13, .slice C E.length A), (14, .slice h c.1.length g), (15, .slice f c.2.1.length d), (16, iv c.2.2.1), (17, .bool c.2.2.2)] cs (W_nil (N_then (G_seq (G_seq ?_))))
 obtain ⟨fq, eo, ej⟩ := gx_bind hm
 refine G_meet (fun a w' => Mem [] w w' [dd, de, df, dg, dh, di, cm, cn, co] ∧ Sat Try.f6.ntmps [(0, .slice n l.length m), (1, .slice k i.length j), (2, iv o), (8, .slice x b.1.length v), (9, .slice u b.2.1.length t), (10, iv b.2.2.1), (11, .bool b.2.2.2), (12, .slice B D.length z), (13, .slice C E.length A), (14, .slice h c.1.length g), (15, .slice f c.2.1.length d), (16, iv c.2.2.1), (17, .bool c.2.2.2), (76, .bool fq)] a) ?_ ?_
 ·have hm := eo
  refine G_region (wR 2 [(0, .slice n l.length m), (1, .slice k i.length j), (2, iv o), (8, .slice x b.1.length v), (9, .slice u b.2.1.length t), (10, iv b.2.2.1), (11, .bool b.2.2.2), (12, .slice B D.length z), (13, .slice C E.length A), (14, .slice h c.1.length g), (15, .slice f c.2.1.length d), (16, iv c.2.2.1), (17, .bool c.2.2.2), (57, .slice h c.1.length g), (58, .slice x b.1.length v)] cs ?_)
  obtain ⟨ft, e5, hm⟩ := gx_bind hm
  refine wC 18 #[.slice h c.1.length g, .slice x b.1.length v] ((c_l_eqIntS cs c.1 h g (cf.rd a5 9 (by kernel_rfl)) b.1 x v (cb.rd a5 3 (by kernel_rfl)) e5).mono ?_)
  rintro e_ ar ⟨rfl, dv⟩
  have X := a5.call0 dv
  refine ⟨_, rfl, ?_⟩
  refine wR 2 [(0, .slice n l.length m), (1, .slice k i.length j), (2, iv o), (8, .slice x b.1.length v), (9, .slice u b.2.1.length t), (10, iv b.2.2.1), (11, .bool b.2.2.2), (12, .slice B D.length z), (13, .slice C E.length A), (14, .slice h c.1.length g), (15, .slice f c.2.1.length d), (16, iv c.2.2.1), (17, .bool c.2.2.2), (61, .bool (!ft))] ar ?_
  rcases gx_bif hm with ⟨bp, hm⟩ | ⟨bp, hm⟩
  ·refine wK 61 true bp (wR 15 [(0, .slice n l.length m), (1, .slice k i.length j), (2, iv o), (8, .slice x b.1.length v), (9, .slice u b.2.1.length t), (10, iv b.2.2.1), (11, .bool b.2.2.2), (12, .slice B D.length z), (13, .slice C E.length A), (14, .slice h c.1.length g), (15, .slice f c.2.1.length d), (16, iv c.2.2.1), (17, .bool c.2.2.2), (76, .bool true)] ar (W_nil ?_))
   obtain rfl := Option.some.inj hm
   exact N_meet fun a ha => ⟨X.pk [3, 4, 5, 6, 7, 8, 9, 10, 11], ha.s⟩
  refine wK 61 false bp (wR 2 [(0, .slice n l.length m), (1, .slice k i.length j), (2, iv o), (8, .slice x b.1.length v), (9, .slice u b.2.1.length t), (10, iv b.2.2.1), (11, .bool b.2.2.2), (12, .slice B D.length z), (13, .slice C E.length A), (14, .slice h c.1.length g), (15, .slice f c.2.1.length d), (16, iv c.2.2.1), (17, .bool c.2.2.2), (61, .bool false), (62, .slice f c.2.1.length d), (63, .slice u b.2.1.length t)] ar ?_)
  obtain ⟨fu, e6, hm⟩ := gx_bind hm
  refine wC 19 #[.slice f c.2.1.length d, .slice u b.2.1.length t] ((c_l_eqBalloonS ar c.2.1 f d (cg.rd X 10 (by kernel_rfl) 11 (by kernel_rfl)) b.2.1 u t (cc.rd X 4 (by kernel_rfl) 5 (by kernel_rfl)) e6).mono ?_)
  rintro e_ Q ⟨rfl, dw⟩
  have a6 := X.call0 dw
  refine ⟨_, rfl, ?_⟩
  refine wR 3 [(0, .slice n l.length m), (1, .slice k i.length j), (2, iv o), (8, .slice x b.1.length v), (9, .slice u b.2.1.length t), (10, iv b.2.2.1), (11, .bool b.2.2.2), (12, .slice B D.length z), (13, .slice C E.length A), (14, .slice h c.1.length g), (15, .slice f c.2.1.length d), (16, iv c.2.2.1), (17, .bool c.2.2.2), (67, .bool (!fu))] Q ?_
  rcases gx_bif hm with ⟨bq, hm⟩ | ⟨bq, hm⟩
  ·refine wK 67 true bq (wR 9 [(0, .slice n l.length m), (1, .slice k i.length j), (2, iv o), (8, .slice x b.1.length v), (9, .slice u b.2.1.length t), (10, iv b.2.2.1), (11, .bool b.2.2.2), (12, .slice B D.length z), (13, .slice C E.length A), (14, .slice h c.1.length g), (15, .slice f c.2.1.length d), (16, iv c.2.2.1), (17, .bool c.2.2.2), (76, .bool true)] Q (W_nil ?_))
   obtain rfl := Option.some.inj hm
   exact N_meet fun a ha => ⟨a6.pk [3, 4, 5, 6, 7, 8, 9, 10, 11], ha.s⟩
  refine wK 67 false bq (wR 5 [(0, .slice n l.length m), (1, .slice k i.length j), (2, iv o), (8, .slice x b.1.length v), (9, .slice u b.2.1.length t), (10, iv b.2.2.1), (11, .bool b.2.2.2), (12, .slice B D.length z), (13, .slice C E.length A), (14, .slice h c.1.length g), (15, .slice f c.2.1.length d), (16, iv c.2.2.1), (17, .bool c.2.2.2), (72, .bool (c.2.2.1 != b.2.2.1))] Q ?_)
  rcases gx_bif hm with ⟨br, hm⟩ | ⟨br, hm⟩
  ·refine wK 72 true br (wR 4 [(0, .slice n l.length m), (1, .slice k i.length j), (2, iv o), (8, .slice x b.1.length v), (9, .slice u b.2.1.length t), (10, iv b.2.2.1), (11, .bool b.2.2.2), (12, .slice B D.length z), (13, .slice C E.length A), (14, .slice h c.1.length g), (15, .slice f c.2.1.length d), (16, iv c.2.2.1), (17, .bool c.2.2.2), (76, .bool true)] Q (W_nil ?_))
   obtain rfl := Option.some.inj hm
   exact N_meet fun a ha => ⟨a6.pk [3, 4, 5, 6, 7, 8, 9, 10, 11], ha.s⟩
  refine wK 72 false br (wR 4 [(0, .slice n l.length m), (1, .slice k i.length j), (2, iv o), (8, .slice x b.1.length v), (9, .slice u b.2.1.length t), (10, iv b.2.2.1), (11, .bool b.2.2.2), (12, .slice B D.length z), (13, .slice C E.length A), (14, .slice h c.1.length g), (15, .slice f c.2.1.length d), (16, iv c.2.2.1), (17, .bool c.2.2.2), (76, .bool (!(c.2.2.2 == b.2.2.2)))] Q (W_nil ?_))
  obtain rfl := Option.some.inj hm
  exact N_meet fun a ha => ⟨a6.pk [3, 4, 5, 6, 7, 8, 9, 10, 11], ha.s⟩
 intro f7 ct ⟨a7, eg⟩
 refine N_use eg ?_
 have hm := ej
 refine N_then ?_
 rcases gx_bif hm with ⟨bs, hm⟩ | ⟨bs, hm⟩
 ·refine gT bs (G_seq (G_region (wR 1 [(6, .bool false)] ct (W_nil (N_then (G_ret (N_then_ret ?_)))))))
  obtain rfl := Option.some.inj hm
  exact N_ret [.bool false] (rC RVs_nil) (⟨rfl, a7.pk []⟩)
 refine gF bs (G_skip (N_then (G_seq (G_seq (G_region (wR 2 [(0, .slice n l.length m), (1, .slice k i.length j), (2, iv o), (8, .slice x b.1.length v), (9, .slice u b.2.1.length t), (10, iv b.2.2.1), (11, .bool b.2.2.2), (12, .slice B D.length z), (13, .slice C E.length A), (14, .slice h c.1.length g), (15, .slice f c.2.1.length d), (16, iv c.2.2.1), (17, .bool c.2.2.2), (77, .slice B D.length z), (78, .slice n l.length m)] ct ?_))))))
 obtain ⟨db, e7, hm⟩ := gx_bind hm
 refine wC 15 #[.slice n l.length m] ((c_l_toIntS ct l n m (ah.mem0 a7) e7).mono ?_)
 rintro e_ f4 ⟨c8, c2, gf, rfl, ep, dx⟩
 have a8 := a7.call dx
 refine ⟨_, rfl, ?_⟩
 obtain ⟨fv, e8, hm⟩ := gx_bind hm
 refine wC 18 #[.slice B D.length z, .slice c8 db.length c2] ((c_l_eqIntS f4 D B z (cd.rd a8 3 (by kernel_rfl)) db c8 c2 (ep.rd a8 9 (by kernel_rfl)) e8).mono ?_)
 rintro e_ au ⟨rfl, dy⟩
 have a9 := a8.call0 dy
 refine ⟨_, rfl, ?_⟩
 refine wR 1 [(0, .slice n l.length m), (1, .slice k i.length j), (2, iv o), (8, .slice x b.1.length v), (9, .slice u b.2.1.length t), (10, iv b.2.2.1), (11, .bool b.2.2.2), (12, .slice B D.length z), (13, .slice C E.length A), (14, .slice h c.1.length g), (15, .slice f c.2.1.length d), (16, iv c.2.2.1), (17, .bool c.2.2.2), (81, .bool (!fv))] au (W_nil (N_then ?_))
 rcases gx_bif hm with ⟨bt, hm⟩ | ⟨bt, hm⟩
 ·refine gT bt (G_seq (G_region (wR 1 [(6, .bool false)] au (W_nil (N_then (G_ret (N_then_ret ?_)))))))
  obtain rfl := Option.some.inj hm
  exact N_ret [.bool false] (rC RVs_nil) (⟨rfl, a9.pk []⟩)
 refine gF bt (G_skip (N_then (G_seq (G_seq (G_region (wR 2 [(0, .slice n l.length m), (1, .slice k i.length j), (2, iv o), (8, .slice x b.1.length v), (9, .slice u b.2.1.length t), (10, iv b.2.2.1), (11, .bool b.2.2.2), (12, .slice B D.length z), (13, .slice C E.length A), (14, .slice h c.1.length g), (15, .slice f c.2.1.length d), (16, iv c.2.2.1), (17, .bool c.2.2.2), (82, .slice C E.length A), (83, .slice k i.length j)] au ?_))))))
 obtain ⟨dc, e9, hm⟩ := gx_bind hm
 refine wC 16 #[.slice k i.length j] ((c_l_toBalloonS au i k j (O.mem0 a9) e9).mono ?_)
 rintro e_ f5 ⟨c9, c3, gg, gh, rfl, er, dz⟩
 have ba := a9.call dz
 refine ⟨_, rfl, ?_⟩
 obtain ⟨fw, fa, hm⟩ := gx_bind hm
 refine wC 19 #[.slice C E.length A, .slice c9 dc.length c3] ((c_l_eqBalloonS f5 E C A (ce.rd ba 4 (by kernel_rfl) 5 (by kernel_rfl)) dc c9 c3 (er.rd ba 10 (by kernel_rfl) 11 (by kernel_rfl)) fa).mono ?_)
 rintro e_ R ⟨rfl, d0⟩
 have Y := ba.call0 d0
 refine ⟨_, rfl, ?_⟩
 refine wR 1 [(0, .slice n l.length m), (1, .slice k i.length j), (2, iv o), (8, .slice x b.1.length v), (9, .slice u b.2.1.length t), (10, iv b.2.2.1), (11, .bool b.2.2.2), (12, .slice B D.length z), (13, .slice C E.length A), (14, .slice h c.1.length g), (15, .slice f c.2.1.length d), (16, iv c.2.2.1), (17, .bool c.2.2.2), (86, .bool (!fw))] R (W_nil (N_then ?_))
 rcases gx_bif hm with ⟨bu, hm⟩ | ⟨bu, hm⟩
 ·refine gT bu (G_seq (G_region (wR 1 [(6, .bool false)] R (W_nil (N_then (G_ret (N_then_ret ?_)))))))
  obtain rfl := Option.some.inj hm
  exact N_ret [.bool false] (rC RVs_nil) (⟨rfl, Y.pk []⟩)
 refine gF bu (G_skip (N_then (G_seq (G_region (wR 1 [(0, .slice n l.length m), (1, .slice k i.length j), (2, iv o), (8, .slice x b.1.length v), (9, .slice u b.2.1.length t), (10, iv b.2.2.1), (11, .bool b.2.2.2), (12, .slice B D.length z), (13, .slice C E.length A), (14, .slice h c.1.length g), (15, .slice f c.2.1.length d), (16, iv c.2.2.1), (17, .bool c.2.2.2), (18, iv 1)] R (W_nil (N_then (G_seq (G_region (wR 2 [(0, .slice n l.length m), (1, .slice k i.length j), (2, iv o), (8, .slice x b.1.length v), (9, .slice u b.2.1.length t), (10, iv b.2.2.1), (11, .bool b.2.2.2), (13, .slice C E.length A), (14, .slice h c.1.length g), (15, .slice f c.2.1.length d), (16, iv c.2.2.1), (17, .bool c.2.2.2), (18, iv 1), (87, .slice B D.length z), (88, iv 1)] R ?_))))))))))
 obtain ⟨L, fb, hm⟩ := gx_bind hm
 refine wC 24 #[.slice B D.length z, iv 1] ((c_l_markIntS R D B z dg cd 1 (Y.hasPick [3]) (Y.nodupPick [3] (by kernel_rfl)) fb).mono ?_)
 rintro e_ cu ⟨gi, rfl, ga, c4, d1⟩
 have bb := Y.callF' [3] [0, 1, 2, 4, 5, 6, 7, 8, 9, 10, 11] (by kernel_rfl) d1
 refine ⟨_, rfl, ?_⟩
 refine wX 87 (.slice B D.length z) (.slice B L.2.length z) (by first | rw [c4] | rw [c4]) (wR 1 [(0, .slice n l.length m), (1, .slice k i.length j), (2, iv o), (8, .slice x b.1.length v), (9, .slice u b.2.1.length t), (10, iv b.2.2.1), (11, .bool b.2.2.2), (13, .slice C E.length A), (14, .slice h c.1.length g), (15, .slice f c.2.1.length d), (16, iv c.2.2.1), (17, .bool c.2.2.2), (18, iv L.1)] cu (W_nil (N_then (G_seq (G_region (wR 2 [(0, .slice n l.length m), (1, .slice k i.length j), (2, iv o), (8, .slice x b.1.length v), (9, .slice u b.2.1.length t), (10, iv b.2.2.1), (11, .bool b.2.2.2), (14, .slice h c.1.length g), (15, .slice f c.2.1.length d), (16, iv c.2.2.1), (17, .bool c.2.2.2), (18, iv L.1), (90, .slice C E.length A), (91, iv L.1)] cu ?_))))))
 obtain ⟨ck, fc, hm⟩ := gx_bind hm
 refine wC 25 #[.slice C E.length A, iv L.1] ((c_l_markBalloonS cu E C A dh di ce L.1 (bb.hasPick [3, 4]) (bb.nodupPick [3, 4] (by kernel_rfl)) fc).mono ?_)
 rintro e_ S ⟨gj, gk, rfl, gb, c5, d2⟩
 have Z := bb.callF' [3, 4] [0, 1, 2, 5, 6, 7, 8, 9, 10, 11] (by kernel_rfl) d2
 refine ⟨_, rfl, ?_⟩
 refine wX 90 (.slice C E.length A) (.slice C ck.2.length A) (by first | rw [c5] | rw [c5]) (wR 1 [(0, .slice n l.length m), (1, .slice k i.length j), (2, iv o), (8, .slice x b.1.length v), (9, .slice u b.2.1.length t), (10, iv b.2.2.1), (11, .bool b.2.2.2), (14, .slice h c.1.length g), (15, .slice f c.2.1.length d), (16, iv c.2.2.1), (17, .bool c.2.2.2), (18, iv ck.1)] S (W_nil (N_then (G_seq (G_seq ?_)))))
 obtain ⟨fr, es, ek⟩ := gx_bind hm
 refine G_meet (fun a w' => Mem [] w w' [dd, de, df, cm, cn, co] ∧ Sat Try.f6.ntmps [(0, .slice n l.length m), (1, .slice k i.length j), (2, iv o), (8, .slice x b.1.length v), (9, .slice u b.2.1.length t), (10, iv b.2.2.1), (11, .bool b.2.2.2), (14, .slice h c.1.length g), (15, .slice f c.2.1.length d), (116, .bool fr)] a) ?_ ?_
 ·have hm := es
  refine G_region (wR 3 [(0, .slice n l.length m), (1, .slice k i.length j), (2, iv o), (8, .slice x b.1.length v), (9, .slice u b.2.1.length t), (10, iv b.2.2.1), (11, .bool b.2.2.2), (14, .slice h c.1.length g), (15, .slice f c.2.1.length d), (16, iv c.2.2.1), (17, .bool c.2.2.2), (95, .bool (decide (ck.1 < 0)))] S ?_)
  rcases gx_bif hm with ⟨bv, hm⟩ | ⟨bv, hm⟩
  ·refine wK 95 true bv (wR 21 [(0, .slice n l.length m), (1, .slice k i.length j), (2, iv o), (8, .slice x b.1.length v), (9, .slice u b.2.1.length t), (10, iv b.2.2.1), (11, .bool b.2.2.2), (14, .slice h c.1.length g), (15, .slice f c.2.1.length d), (116, .bool true)] S (W_nil ?_))
   obtain rfl := Option.some.inj hm
   exact N_meet fun a ha => ⟨Z.pk [0, 1, 2, 3, 4, 5], ha.s⟩
  refine wK 95 false bv (wR 2 [(0, .slice n l.length m), (1, .slice k i.length j), (2, iv o), (8, .slice x b.1.length v), (9, .slice u b.2.1.length t), (10, iv b.2.2.1), (11, .bool b.2.2.2), (14, .slice h c.1.length g), (15, .slice f c.2.1.length d), (16, iv c.2.2.1), (17, .bool c.2.2.2), (95, .bool false), (96, .slice h c.1.length g), (97, .slice x b.1.length v)] S ?_)
  obtain ⟨fx, fd, hm⟩ := gx_bind hm
  refine wC 18 #[.slice h c.1.length g, .slice x b.1.length v] ((c_l_eqIntS S c.1 h g (cf.rd Z 3 (by kernel_rfl)) b.1 x v (cb.rd Z 0 (by kernel_rfl)) fd).mono ?_)
  rintro e_ av ⟨rfl, d3⟩
  have aa := Z.call0 d3
  refine ⟨_, rfl, ?_⟩
  refine wR 3 [(0, .slice n l.length m), (1, .slice k i.length j), (2, iv o), (8, .slice x b.1.length v), (9, .slice u b.2.1.length t), (10, iv b.2.2.1), (11, .bool b.2.2.2), (14, .slice h c.1.length g), (15, .slice f c.2.1.length d), (16, iv c.2.2.1), (17, .bool c.2.2.2), (101, .bool (!fx))] av ?_
  rcases gx_bif hm with ⟨bw, hm⟩ | ⟨bw, hm⟩
  ·refine wK 101 true bw (wR 15 [(0, .slice n l.length m), (1, .slice k i.length j), (2, iv o), (8, .slice x b.1.length v), (9, .slice u b.2.1.length t), (10, iv b.2.2.1), (11, .bool b.2.2.2), (14, .slice h c.1.length g), (15, .slice f c.2.1.length d), (116, .bool true)] av (W_nil ?_))
   obtain rfl := Option.some.inj hm
   exact N_meet fun a ha => ⟨aa.pk [0, 1, 2, 3, 4, 5], ha.s⟩
  refine wK 101 false bw (wR 2 [(0, .slice n l.length m), (1, .slice k i.length j), (2, iv o), (8, .slice x b.1.length v), (9, .slice u b.2.1.length t), (10, iv b.2.2.1), (11, .bool b.2.2.2), (14, .slice h c.1.length g), (15, .slice f c.2.1.length d), (16, iv c.2.2.1), (17, .bool c.2.2.2), (101, .bool false), (102, .slice f c.2.1.length d), (103, .slice u b.2.1.length t)] av ?_)
  obtain ⟨fy, fe, hm⟩ := gx_bind hm
  refine wC 19 #[.slice f c.2.1.length d, .slice u b.2.1.length t] ((c_l_eqBalloonS av c.2.1 f d (cg.rd aa 4 (by kernel_rfl) 5 (by kernel_rfl)) b.2.1 u t (cc.rd aa 1 (by kernel_rfl) 2 (by kernel_rfl)) fe).mono ?_)
  rintro e_ T ⟨rfl, d4⟩
  have bc := aa.call0 d4
  refine ⟨_, rfl, ?_⟩
  refine wR 3 [(0, .slice n l.length m), (1, .slice k i.length j), (2, iv o), (8, .slice x b.1.length v), (9, .slice u b.2.1.length t), (10, iv b.2.2.1), (11, .bool b.2.2.2), (14, .slice h c.1.length g), (15, .slice f c.2.1.length d), (16, iv c.2.2.1), (17, .bool c.2.2.2), (107, .bool (!fy))] T ?_
  rcases gx_bif hm with ⟨bx, hm⟩ | ⟨bx, hm⟩
  ·refine wK 107 true bx (wR 9 [(0, .slice n l.length m), (1, .slice k i.length j), (2, iv o), (8, .slice x b.1.length v), (9, .slice u b.2.1.length t), (10, iv b.2.2.1), (11, .bool b.2.2.2), (14, .slice h c.1.length g), (15, .slice f c.2.1.length d), (116, .bool true)] T (W_nil ?_))
   obtain rfl := Option.some.inj hm
   exact N_meet fun a ha => ⟨bc.pk [0, 1, 2, 3, 4, 5], ha.s⟩
  refine wK 107 false bx (wR 5 [(0, .slice n l.length m), (1, .slice k i.length j), (2, iv o), (8, .slice x b.1.length v), (9, .slice u b.2.1.length t), (10, iv b.2.2.1), (11, .bool b.2.2.2), (14, .slice h c.1.length g), (15, .slice f c.2.1.length d), (17, .bool c.2.2.2), (112, .bool (c.2.2.1 != b.2.2.1))] T ?_)
  rcases gx_bif hm with ⟨bz, hm⟩ | ⟨bz, hm⟩
  ·refine wK 112 true bz (wR 4 [(0, .slice n l.length m), (1, .slice k i.length j), (2, iv o), (8, .slice x b.1.length v), (9, .slice u b.2.1.length t), (10, iv b.2.2.1), (11, .bool b.2.2.2), (14, .slice h c.1.length g), (15, .slice f c.2.1.length d), (116, .bool true)] T (W_nil ?_))
   obtain rfl := Option.some.inj hm
   exact N_meet fun a ha => ⟨bc.pk [0, 1, 2, 3, 4, 5], ha.s⟩
  refine wK 112 false bz (wR 4 [(0, .slice n l.length m), (1, .slice k i.length j), (2, iv o), (8, .slice x b.1.length v), (9, .slice u b.2.1.length t), (10, iv b.2.2.1), (11, .bool b.2.2.2), (14, .slice h c.1.length g), (15, .slice f c.2.1.length d), (116, .bool (!(c.2.2.2 == b.2.2.2)))] T (W_nil ?_))
  obtain rfl := Option.some.inj hm
  exact N_meet fun a ha => ⟨bc.pk [0, 1, 2, 3, 4, 5], ha.s⟩
 intro f8 aw ⟨ab, eh⟩
 refine N_use eh ?_
 have hm := ek
 refine N_then ?_
 rcases gx_bif hm with ⟨b0, hm⟩ | ⟨b0, hm⟩
 ·refine gT b0 (G_seq (G_region (wR 1 [(6, .bool false)] aw (W_nil (N_then (G_ret (N_then_ret ?_)))))))
  obtain rfl := Option.some.inj hm
  exact N_ret [.bool false] (rC RVs_nil) (⟨rfl, ab.pk []⟩)
 refine gF b0 (G_skip (N_then (G_seq (G_region (wR 1 [(0, .slice n l.length m), (1, .slice k i.length j), (2, iv o), (8, .slice x b.1.length v), (9, .slice u b.2.1.length t), (10, iv b.2.2.1), (11, .bool b.2.2.2), (14, .slice h c.1.length g), (15, .slice f c.2.1.length d), (19, iv 1)] aw (W_nil (N_then (G_seq (G_region (wR 2 [(0, .slice n l.length m), (1, .slice k i.length j), (2, iv o), (8, .slice x b.1.length v), (9, .slice u b.2.1.length t), (10, iv b.2.2.1), (11, .bool b.2.2.2), (14, .slice h c.1.length g), (15, .slice f c.2.1.length d), (19, iv 1), (117, .slice h c.1.length g), (118, iv 1)] aw ?_))))))))))
 obtain ⟨y, ff, hm⟩ := gx_bind hm
 refine wC 24 #[.slice h c.1.length g, iv 1] ((c_l_markIntS aw c.1 h g cm cf 1 (ab.hasPick [3]) (ab.nodupPick [3] (by kernel_rfl)) ff).mono ?_)
 rintro e_ cv ⟨f1, rfl, c6, ai, d5⟩
 have bd := ab.callF' [3] [0, 1, 2, 4, 5] (by kernel_rfl) d5
 refine ⟨_, rfl, ?_⟩
 refine wX 14 (.slice h c.1.length g) (.slice h y.2.length g) (by first | rw [ai] | rw [ai]) (wX 117 (.slice h c.1.length g) (.slice h y.2.length g) (by first | rw [ai] | rw [ai]) (wR 1 [(0, .slice n l.length m), (1, .slice k i.length j), (2, iv o), (8, .slice x b.1.length v), (9, .slice u b.2.1.length t), (10, iv b.2.2.1), (11, .bool b.2.2.2), (14, .slice h y.2.length g), (15, .slice f c.2.1.length d), (19, iv y.1)] cv (W_nil (N_then (G_seq (G_region (wR 2 [(0, .slice n l.length m), (1, .slice k i.length j), (2, iv o), (8, .slice x b.1.length v), (9, .slice u b.2.1.length t), (10, iv b.2.2.1), (11, .bool b.2.2.2), (14, .slice h y.2.length g), (15, .slice f c.2.1.length d), (19, iv y.1), (120, .slice f c.2.1.length d), (121, iv y.1)] cv ?_)))))))
 obtain ⟨q, fg, hm⟩ := gx_bind hm
 refine wC 25 #[.slice f c.2.1.length d, iv y.1] ((c_l_markBalloonS cv c.2.1 f d cn co cg y.1 (bd.hasPick [3, 4]) (bd.nodupPick [3, 4] (by kernel_rfl)) fg).mono ?_)
 rintro e_ ax ⟨f2, f3, rfl, c7, aj, d6⟩
 have c0 := bd.callF' [3, 4] [0, 1, 2, 5] (by kernel_rfl) d6
 refine ⟨_, rfl, ?_⟩
 refine wX 15 (.slice f c.2.1.length d) (.slice f q.2.length d) (by first | rw [aj] | rw [aj]) (wX 120 (.slice f c.2.1.length d) (.slice f q.2.length d) (by first | rw [aj] | rw [aj]) (wR 1 [(0, .slice n l.length m), (1, .slice k i.length j), (2, iv o), (8, .slice x b.1.length v), (9, .slice u b.2.1.length t), (10, iv b.2.2.1), (11, .bool b.2.2.2), (14, .slice h y.2.length g), (15, .slice f q.2.length d), (19, iv q.1)] ax (W_nil (N_then (G_seq (G_region (wR 1 [(0, .slice n l.length m), (1, .slice k i.length j), (2, iv o), (8, .slice x b.1.length v), (9, .slice u b.2.1.length t), (10, iv b.2.2.1), (11, .bool b.2.2.2), (14, .slice h y.2.length g), (15, .slice f q.2.length d), (19, iv q.1), (20, iv 1)] ax (W_nil (N_then (G_seq (G_region (wR 2 [(0, .slice n l.length m), (1, .slice k i.length j), (2, iv o), (8, .slice x b.1.length v), (9, .slice u b.2.1.length t), (10, iv b.2.2.1), (11, .bool b.2.2.2), (14, .slice h y.2.length g), (15, .slice f q.2.length d), (19, iv q.1), (20, iv 1), (123, .slice h y.2.length g), (124, iv 1)] ax ?_))))))))))))
 obtain ⟨G, fh, hm⟩ := gx_bind hm
 refine wC 29 #[.slice h y.2.length g, iv 1] ((c_l_heldIntS ax y.2 h g (c6.rd c0 3 (by kernel_rfl)) 1 fh).mono ?_)
 rintro e_ U ⟨rfl, d7⟩
 have be := c0.call0 d7
 refine ⟨_, rfl, ?_⟩
 refine wR 1 [(0, .slice n l.length m), (1, .slice k i.length j), (2, iv o), (8, .slice x b.1.length v), (9, .slice u b.2.1.length t), (10, iv b.2.2.1), (11, .bool b.2.2.2), (14, .slice h y.2.length g), (15, .slice f q.2.length d), (19, iv q.1), (20, iv G)] U (W_nil (N_then (G_seq (G_seq (G_region (wR 2 [(0, .slice n l.length m), (1, .slice k i.length j), (2, iv o), (8, .slice x b.1.length v), (9, .slice u b.2.1.length t), (10, iv b.2.2.1), (11, .bool b.2.2.2), (14, .slice h y.2.length g), (15, .slice f q.2.length d), (19, iv q.1), (20, iv G), (127, .bool (decide (G < 0)))] U (W_nil (N_then ?_))))))))
 rcases gx_bif hm with ⟨b1, hm⟩ | ⟨b1, hm⟩
 ·refine gT b1 (G_seq (G_region (wR 1 [(6, .bool false)] U (W_nil (N_then (G_ret (N_then_ret ?_)))))))
  obtain rfl := Option.some.inj hm
  exact N_ret [.bool false] (rC RVs_nil) (⟨rfl, be.pk []⟩)
 refine gF b1 (G_skip (N_then (G_seq (G_region (wR 2 [(0, .slice n l.length m), (1, .slice k i.length j), (2, iv o), (8, .slice x b.1.length v), (9, .slice u b.2.1.length t), (10, iv b.2.2.1), (11, .bool b.2.2.2), (14, .slice h y.2.length g), (15, .slice f q.2.length d), (19, iv q.1), (20, iv G), (128, .slice f q.2.length d), (129, iv G)] U ?_)))))
 obtain ⟨ao, fi, hm⟩ := gx_bind hm
 refine wC 26 #[.slice f q.2.length d, iv G] ((c_l_heldBalloonS U q.2 f d (c7.rd be 4 (by kernel_rfl) 5 (by kernel_rfl)) G fi).mono ?_)
 rintro e_ I ⟨rfl, d8⟩
 have ac := be.call0 d8
 refine ⟨_, rfl, ?_⟩
 refine wR 1 [(0, .slice n l.length m), (1, .slice k i.length j), (2, iv o), (8, .slice x b.1.length v), (9, .slice u b.2.1.length t), (10, iv b.2.2.1), (11, .bool b.2.2.2), (14, .slice h y.2.length g), (15, .slice f q.2.length d), (19, iv q.1), (20, iv ao)] I (W_nil (N_then (G_seq (G_seq (G_region (wR 2 [(0, .slice n l.length m), (1, .slice k i.length j), (2, iv o), (8, .slice x b.1.length v), (9, .slice u b.2.1.length t), (10, iv b.2.2.1), (11, .bool b.2.2.2), (14, .slice h y.2.length g), (15, .slice f q.2.length d), (19, iv q.1), (20, iv ao), (132, .bool (decide (ao < 0)))] I (W_nil (N_then ?_))))))))
 rcases gx_bif hm with ⟨b2, hm⟩ | ⟨b2, hm⟩
 ·refine gT b2 (G_seq (G_region (wR 1 [(6, .bool false)] I (W_nil (N_then (G_ret (N_then_ret ?_)))))))
  obtain rfl := Option.some.inj hm
  exact N_ret [.bool false] (rC RVs_nil) (⟨rfl, ac.pk []⟩)
 refine gF b2 (G_skip (N_then (G_seq (G_seq (G_region (wR 3 [(0, .slice n l.length m), (1, .slice k i.length j), (2, iv o), (8, .slice x b.1.length v), (9, .slice u b.2.1.length t), (10, iv b.2.2.1), (11, .bool b.2.2.2), (14, .slice h y.2.length g), (15, .slice f q.2.length d), (19, iv q.1), (135, .bool (ao != q.1))] I (W_nil (N_then ?_))))))))
 rcases gx_bif hm with ⟨b3, hm⟩ | ⟨b3, hm⟩
 ·refine gT b3 (G_seq (G_region (wR 1 [(6, .bool false)] I (W_nil (N_then (G_ret (N_then_ret ?_)))))))
  obtain rfl := Option.some.inj hm
  exact N_ret [.bool false] (rC RVs_nil) (⟨rfl, ac.pk []⟩)
 refine gF b3 (G_skip (N_then (G_seq (G_region (wR 1 [(1, .slice k i.length j), (2, iv o), (8, .slice x b.1.length v), (9, .slice u b.2.1.length t), (10, iv b.2.2.1), (11, .bool b.2.2.2), (14, .slice h y.2.length g), (15, .slice f q.2.length d), (19, iv q.1), (137, .slice n l.length m)] I ?_)))))
 obtain ⟨ap, fj, hm⟩ := gx_bind hm
 refine wC 15 #[.slice n l.length m] ((c_l_toIntS I l n m (ah.mem0 ac) fj).mono ?_)
 rintro e_ dl ⟨al, af, gl, rfl, et, d9⟩
 have c1 := ac.call d9
 refine ⟨_, rfl, ?_⟩
 refine wR 1 [(2, iv o), (8, .slice x b.1.length v), (9, .slice u b.2.1.length t), (10, iv b.2.2.1), (11, .bool b.2.2.2), (14, .slice h y.2.length g), (15, .slice f q.2.length d), (19, iv q.1), (138, .slice al ap.length af), (139, .slice k i.length j)] dl ?_
 obtain ⟨cl, fk, hm⟩ := gx_bind hm
 refine wC 16 #[.slice k i.length j] ((c_l_toBalloonS dl i k j (O.mem0 c1) fk).mono ?_)
 rintro e_ dm ⟨ci, bm, gm, gn, rfl, eu, ea⟩
 have bf := c1.call ea
 refine ⟨_, rfl, ?_⟩
 refine wR 1 [(8, .slice x b.1.length v), (9, .slice u b.2.1.length t), (10, iv b.2.2.1), (11, .bool b.2.2.2), (14, .slice h y.2.length g), (15, .slice f q.2.length d), (19, iv q.1), (138, .slice al ap.length af), (140, .slice ci cl.length bm), (141, iv o)] dm ?_
 obtain ⟨F, fl, hm⟩ := gx_bind hm
 refine wC 28 #[.slice al ap.length af, .slice ci cl.length bm, iv o] ((c_i_TakeGiven dm ap al af (et.rd bf 6 (by kernel_rfl)) cl ci bm (eu.rd bf 7 (by kernel_rfl) 8 (by kernel_rfl)) o fl).mono ?_)
 rintro e_ cw ⟨am, ag, go, K, J, gp, gq, rfl, ev, ew, eb⟩
 have bg := bf.call eb
 refine ⟨_, rfl, ?_⟩
 refine wR 9 [(8, .slice x b.1.length v), (9, .slice u b.2.1.length t), (10, iv b.2.2.1), (11, .bool b.2.2.2), (14, .slice h y.2.length g), (15, .slice f q.2.length d), (19, iv q.1), (21, .slice am F.1.length ag), (22, .slice K F.2.1.length J), (23, iv F.2.2.1), (24, .bool F.2.2.2)] cw (W_nil (N_then (G_seq (G_seq ?_))))
 obtain ⟨fs, ex, el⟩ := gx_bind hm
 refine G_meet (fun a w' => Mem [] w w' [f1, f2, f3] ∧ Sat Try.f6.ntmps [(14, .slice h y.2.length g), (15, .slice f q.2.length d), (19, iv q.1), (166, .bool fs)] a) ?_ ?_
 ·have hm := ex
  refine G_region (wR 2 [(9, .slice u b.2.1.length t), (10, iv b.2.2.1), (11, .bool b.2.2.2), (14, .slice h y.2.length g), (15, .slice f q.2.length d), (19, iv q.1), (22, .slice K F.2.1.length J), (23, iv F.2.2.1), (24, .bool F.2.2.2), (147, .slice am F.1.length ag), (148, .slice x b.1.length v)] cw ?_)
  obtain ⟨fz, fm, hm⟩ := gx_bind hm
  refine wC 18 #[.slice am F.1.length ag, .slice x b.1.length v] ((c_l_eqIntS cw F.1 am ag (ev.rd bg 9 (by kernel_rfl)) b.1 x v (cb.rd bg 0 (by kernel_rfl)) fm).mono ?_)
  rintro e_ ay ⟨rfl, ec⟩
  have ad := bg.call0 ec
  refine ⟨_, rfl, ?_⟩
  refine wR 2 [(9, .slice u b.2.1.length t), (10, iv b.2.2.1), (11, .bool b.2.2.2), (14, .slice h y.2.length g), (15, .slice f q.2.length d), (19, iv q.1), (22, .slice K F.2.1.length J), (23, iv F.2.2.1), (24, .bool F.2.2.2), (151, .bool (!fz))] ay ?_
  rcases gx_bif hm with ⟨b4, hm⟩ | ⟨b4, hm⟩
  ·refine wK 151 true b4 (wR 15 [(14, .slice h y.2.length g), (15, .slice f q.2.length d), (19, iv q.1), (166, .bool true)] ay (W_nil ?_))
   obtain rfl := Option.some.inj hm
   exact N_meet fun a ha => ⟨ad.pk [3, 4, 5], ha.s⟩
  refine wK 151 false b4 (wR 2 [(10, iv b.2.2.1), (11, .bool b.2.2.2), (14, .slice h y.2.length g), (15, .slice f q.2.length d), (19, iv q.1), (23, iv F.2.2.1), (24, .bool F.2.2.2), (151, .bool false), (152, .slice K F.2.1.length J), (153, .slice u b.2.1.length t)] ay ?_)
  obtain ⟨f0, fn, hm⟩ := gx_bind hm
  refine wC 19 #[.slice K F.2.1.length J, .slice u b.2.1.length t] ((c_l_eqBalloonS ay F.2.1 K J (ew.rd ad 10 (by kernel_rfl) 11 (by kernel_rfl)) b.2.1 u t (cc.rd ad 1 (by kernel_rfl) 2 (by kernel_rfl)) fn).mono ?_)
  rintro e_ V ⟨rfl, ed⟩
  have bh := ad.call0 ed
  refine ⟨_, rfl, ?_⟩
  refine wR 3 [(10, iv b.2.2.1), (11, .bool b.2.2.2), (14, .slice h y.2.length g), (15, .slice f q.2.length d), (19, iv q.1), (23, iv F.2.2.1), (24, .bool F.2.2.2), (157, .bool (!f0))] V ?_
  rcases gx_bif hm with ⟨b5, hm⟩ | ⟨b5, hm⟩
  ·refine wK 157 true b5 (wR 9 [(14, .slice h y.2.length g), (15, .slice f q.2.length d), (19, iv q.1), (166, .bool true)] V (W_nil ?_))
   obtain rfl := Option.some.inj hm
   exact N_meet fun a ha => ⟨bh.pk [3, 4, 5], ha.s⟩
  refine wK 157 false b5 (wR 5 [(11, .bool b.2.2.2), (14, .slice h y.2.length g), (15, .slice f q.2.length d), (19, iv q.1), (24, .bool F.2.2.2), (162, .bool (F.2.2.1 != b.2.2.1))] V ?_)
  rcases gx_bif hm with ⟨b6, hm⟩ | ⟨b6, hm⟩
  ·refine wK 162 true b6 (wR 4 [(14, .slice h y.2.length g), (15, .slice f q.2.length d), (19, iv q.1), (166, .bool true)] V (W_nil ?_))
   obtain rfl := Option.some.inj hm
   exact N_meet fun a ha => ⟨bh.pk [3, 4, 5], ha.s⟩
  refine wK 162 false b6 (wR 4 [(14, .slice h y.2.length g), (15, .slice f q.2.length d), (19, iv q.1), (166, .bool (!(F.2.2.2 == b.2.2.2)))] V (W_nil ?_))
  obtain rfl := Option.some.inj hm
  exact N_meet fun a ha => ⟨bh.pk [3, 4, 5], ha.s⟩
 intro f9 az ⟨bi, ei⟩
 refine N_use ei ?_
 have hm := el
 refine N_then ?_
 rcases gx_bif hm with ⟨b7, hm⟩ | ⟨b7, hm⟩
 ·refine gT b7 (G_seq (G_region (wR 1 [(6, .bool false)] az (W_nil (N_then (G_ret (N_then_ret ?_)))))))
  obtain rfl := Option.some.inj hm
  exact N_ret [.bool false] (rC RVs_nil) (⟨rfl, bi.pk []⟩)
 refine gF b7 (G_skip (N_then (G_seq (G_region (wR 1 [(14, .slice h y.2.length g), (15, .slice f q.2.length d), (19, iv q.1), (20, iv 1)] az (W_nil (N_then (G_seq (G_region (wR 2 [(15, .slice f q.2.length d), (19, iv q.1), (20, iv 1), (167, .slice h y.2.length g), (168, iv 1)] az ?_))))))))))
 obtain ⟨H, fo, hm⟩ := gx_bind hm
 refine wC 29 #[.slice h y.2.length g, iv 1] ((c_l_heldIntS az y.2 h g (c6.rd bi 0 (by kernel_rfl)) 1 fo).mono ?_)
 rintro e_ W ⟨rfl, ee⟩
 have bj := bi.call0 ee
 refine ⟨_, rfl, ?_⟩
 refine wR 1 [(15, .slice f q.2.length d), (19, iv q.1), (20, iv H)] W (W_nil (N_then (G_seq (G_seq (G_region (wR 2 [(15, .slice f q.2.length d), (19, iv q.1), (20, iv H), (171, .bool (decide (H < 0)))] W (W_nil (N_then ?_))))))))
 rcases gx_bif hm with ⟨b8, hm⟩ | ⟨b8, hm⟩
 ·refine gT b8 (G_seq (G_region (wR 1 [(6, .bool false)] W (W_nil (N_then (G_ret (N_then_ret ?_)))))))
  obtain rfl := Option.some.inj hm
  exact N_ret [.bool false] (rC RVs_nil) (⟨rfl, bj.pk []⟩)
 refine gF b8 (G_skip (N_then (G_seq (G_region (wR 2 [(19, iv q.1), (20, iv H), (172, .slice f q.2.length d), (173, iv H)] W ?_)))))
 obtain ⟨aq, fp, hm⟩ := gx_bind hm
 refine wC 26 #[.slice f q.2.length d, iv H] ((c_l_heldBalloonS W q.2 f d (c7.rd bj 1 (by kernel_rfl) 2 (by kernel_rfl)) H fp).mono ?_)
 rintro e_ N ⟨rfl, ef⟩
 have bk := bj.call0 ef
 refine ⟨_, rfl, ?_⟩
 refine wR 1 [(19, iv q.1), (20, iv aq)] N (W_nil (N_then (G_seq (G_seq (G_region (wR 2 [(19, iv q.1), (20, iv aq), (176, .bool (decide (aq < 0)))] N (W_nil (N_then ?_))))))))
 rcases gx_bif hm with ⟨b9, hm⟩ | ⟨b9, hm⟩
 ·refine gT b9 (G_seq (G_region (wR 1 [(6, .bool false)] N (W_nil (N_then (G_ret (N_then_ret ?_)))))))
  obtain rfl := Option.some.inj hm
  exact N_ret [.bool false] (rC RVs_nil) (⟨rfl, bk.pk []⟩)
 refine gF b9 (G_skip (N_then (G_seq (G_seq (G_region (wR 3 [(179, .bool (aq != q.1))] N (W_nil (N_then ?_))))))))
 rcases gx_bif hm with ⟨ca, hm⟩ | ⟨ca, hm⟩
 ·refine gT ca (G_seq (G_region (wR 1 [(6, .bool false)] N (W_nil (N_then (G_ret (N_then_ret ?_)))))))
  obtain rfl := Option.some.inj hm
  exact N_ret [.bool false] (rC RVs_nil) (⟨rfl, bk.pk []⟩)
 refine gF ca (G_skip (N_then (G_seq (G_region (wR 1 [(6, .bool true)] N (W_nil (N_then (G_ret ?_))))))))
 obtain rfl := Option.some.inj hm
 exact N_ret [.bool true] (rC RVs_nil) (⟨rfl, bk.pk []⟩)
theorem c_s_l18Count (w : World) (c : List Int) (d : Option Addr) (f : Nat) (l : rdS Gx.encI w c d f) (g : Int) {r : Int} (hm : M.s_l18Count c g = some r) :
  Calls Try.prog 65 #[.slice d c.length f, iv g] w fun e w' => e = .returned (iv r) ∧ Mem [] w w' [] := by
 unfold M.s_l18Count at hm
 refine cE Try.func65 ?_
 have M0 := Mem.refl [] w
 refine G_seq (G_region (wR 1 [(0, .slice d c.length f), (1, iv g)] w (W_nil (N_then (G_seq (G_region (wR 1 [(0, .slice d c.length f), (1, iv g), (5, iv 0)] w (W_nil (N_then (G_seq (G_seq (G_region (wR 1 [(0, .slice d c.length f), (1, iv g), (5, iv 0), (6, iv 0)] w (W_nil (N_then ?_)))))))))))))))
 obtain ⟨k, C, z⟩ := gx_bind hm
 refine G_meet (fun a w' => Mem [] w w' [] ∧ Sat Try.f65.ntmps [(5, iv k)] a) ?_ ?_
 ·refine G_block (G_while (σ := Int × Int) (ρ := Int) (fun b a w' => Mem [] w w' [] ∧ Sat Try.f65.ntmps [(0, .slice d c.length f), (1, iv g), (5, iv b.1), (6, iv b.2)] a) C (fun a ha => ⟨M0.pk [], ha.s⟩) ?_)
  clear hm
  intro b G hm B D w6447 ⟨h, u⟩
  refine G_use u (G_seq (G_seq (G_region (wR 4 [(0, .slice d c.length f), (1, iv g), (5, iv b.1), (6, iv b.2), (10, .bool (decide (b.2 < (c.length : Int))))] w6447 (W_nil (N_then ?_))))))
  rcases gx_bif hm with ⟨i, hm⟩ | ⟨i, hm⟩
  ·refine gT i (G_skip (N_then (G_seq (G_block (G_seq (G_region (wR 2 [(0, .slice d c.length f), (1, iv g), (5, iv b.1), (6, iv b.2), (13, .slice d c.length f), (14, iv b.2)] w6447 ?_)))))))
   obtain ⟨o, m, hm⟩ := gx_bind hm
   refine wV (elemP d (b.2.toNat * 1)) w6447 (eI (l.mem0 h) rfl m) (wV (iv o) w6447 (eE false 1 0 (b.2.toNat * 1) (l.mem0 h) m) (wR 2 [(0, .slice d c.length f), (1, iv g), (5, iv b.1), (6, iv b.2), (18, .bool (o == g))] w6447 (W_nil (N_then ?_))))
   obtain ⟨n, A, y⟩ := gx_bind hm
   refine G_meet (fun a w' => Mem [] w w' [] ∧ Sat Try.f65.ntmps [(0, .slice d c.length f), (1, iv g), (5, iv n), (6, iv b.2)] a) ?_ ?_
   ·have hm := A
    rcases gx_bif hm with ⟨j, hm⟩ | ⟨j, hm⟩
    ·refine gT j (G_region (wR 3 [(0, .slice d c.length f), (1, iv g), (5, iv (w64 (b.1 + 1))), (6, iv b.2)] w6447 (W_nil ?_)))
     obtain rfl := Option.some.inj hm
     exact N_meet fun a ha => ⟨h.pk [], ha.s⟩
    refine gF j (G_skip ?_)
    obtain rfl := Option.some.inj hm
    exact N_meet fun a ha => ⟨h.pk [], ha.s⟩
   intro E w6461 ⟨q, v⟩
   refine N_use v ?_
   have hm := y
   refine N_block (N_then (G_region (wR 3 [(0, .slice d c.length f), (1, iv g), (5, iv n), (6, iv (w64 (b.2 + 1)))] w6461 (W_nil ?_))))
   obtain rfl := Option.some.inj hm
   exact N_loop fun a ha => ⟨_, rfl, q.pk [], ha.s⟩
  refine gF i (G_exit (N_then_exit (N_then_exit (N_block_eq ?_))))
  obtain rfl := Option.some.inj hm
  obtain rfl := B _ rfl
  exact N_meet fun a ha => ⟨h.pk [], ha.s⟩
 intro F w6466 ⟨t, x⟩
 refine N_use x ?_
 have hm := z
 refine N_then (G_seq (G_region (wR 2 [(4, iv k)] w6466 (W_nil (N_then (G_ret ?_))))))
 obtain rfl := Option.some.inj hm
 exact N_ret [iv k] (rC RVs_nil) (⟨rfl, t.pk []⟩)
theorem c_s_ShareGoals (w : World) (g : List Int) (l : Option Addr) (k : Nat) (bw : rdS Gx.encI w g l k) (t : List Balloon) (x : Option Addr) (u : Nat) (bx : rdD deepBalloon w t x u) (q : Int) {r : (List Balloon) × Bool} (hm : M.s_ShareGoals g t q = some r) :
  Calls Try.prog 30 #[.slice l g.length k, .slice x t.length u, iv q] w fun e w' => ∃ (b3 : Option Addr) (bu : Nat) (b7 : Seg) (b8 : Seg), e = .returned (.tuple #[.slice b3 r.1.length bu, .bool r.2]) ∧ ownD deepBalloon r.1 b3 bu b7 b8 ∧ Mem [] w w' [b7, b8] := by
 unfold M.s_ShareGoals at hm
 refine cE Try.func30 ?_
 have M0 := Mem.refl [] w
 refine G_seq (G_region (wR 2 [(0, .slice l g.length k), (1, .slice x t.length u), (2, iv q)] w (W_nil (N_then (G_seq (G_seq ?_))))))
 obtain ⟨d8, dh, dd⟩ := gx_bind hm
 refine G_meet (fun a w' => Mem [] w w' [] ∧ Sat Try.f30.ntmps [(0, .slice l g.length k), (1, .slice x t.length u), (2, iv q), (22, .bool d8)] a) ?_ ?_
 ·have hm := dh
  refine G_region (wR 2 [(0, .slice l g.length k), (1, .slice x t.length u), (2, iv q), (14, .slice l g.length k), (15, .slice x t.length u)] w ?_)
  obtain ⟨ea, dt, hm⟩ := gx_bind hm
  refine wC 47 #[.slice l g.length k, .slice x t.length u] ((c_s_l18Good w g l k (bw.mem0 M0) t x u (bx.mem0 M0) dt).mono ?_)
  rintro e_ aj ⟨rfl, cd⟩
  have bj := M0.call0 cd
  refine ⟨_, rfl, ?_⟩
  refine wR 2 [(0, .slice l g.length k), (1, .slice x t.length u), (2, iv q), (18, .bool (!ea))] aj ?_
  rcases gx_bif hm with ⟨av, hm⟩ | ⟨av, hm⟩
  ·refine wK 18 true av (wR 4 [(0, .slice l g.length k), (1, .slice x t.length u), (2, iv q), (22, .bool true)] aj (W_nil ?_))
   obtain rfl := Option.some.inj hm
   exact N_meet fun a ha => ⟨bj.pk [], ha.s⟩
  refine wK 18 false av (wR 1 [(0, .slice l g.length k), (1, .slice x t.length u), (2, iv q), (18, .bool false), (19, iv q)] aj ?_)
  obtain ⟨eb, du, hm⟩ := gx_bind hm
  refine wC 57 #[iv q, iv 0, iv 16] ((c_s_l1In aj q 0 16 du).mono ?_)
  rintro e_ ek ⟨rfl, ce⟩
  have ci := bj.call0 ce
  refine ⟨_, rfl, ?_⟩
  refine wR 2 [(0, .slice l g.length k), (1, .slice x t.length u), (2, iv q), (22, .bool (!eb))] ek (W_nil ?_)
  obtain rfl := Option.some.inj hm
  exact N_meet fun a ha => ⟨ci.pk [], ha.s⟩
 intro e4 ak ⟨am, c3⟩
 refine N_use c3 ?_
 have hm := dd
 refine N_then ?_
 rcases gx_bif hm with ⟨aw, hm⟩ | ⟨aw, hm⟩
 ·refine gT aw (G_seq (G_region ?_))
  have cj : Mem [] w ak [] := am.pk []
  have ck : Mem [] w ak [[]] := cj.regroup (by simp)
  refine W_litD (D := deepBalloon) [] ([] : List Balloon) rfl 0 [] 50 ck (by kernel_rfl) (by kernel_rfl) (by kernel_rfl) (by kernel_rfl) (by kernel_rfl) ownI_nil ?_
  intro ba ao ec el di cl
  refine wR 2 [(6, .slice ba ([] : List Balloon).length ao), (7, .bool false)] el (W_nil (N_then (G_ret (N_then_ret ?_))))
  obtain rfl := Option.some.inj hm
  exact N_ret [.slice ba ([] : List Balloon).length ao, .bool false] (rC (rC RVs_nil)) (⟨ba, ao, ec, [], rfl, di, cl.pk [1, 0]⟩)
 refine gF aw (G_skip (N_then (G_seq (G_region (wR 1 [(0, .slice l g.length k), (2, iv q), (24, .slice x t.length u)] ak ?_)))))
 obtain ⟨b4, dv, hm⟩ := gx_bind hm
 refine wC 58 #[.slice x t.length u, iv (-1), iv 0, .slice none 0 0] ((c_s_l18With ak t x u (bx.mem0 am) (-1) 0 ([] : List Int) none 0 rdS_nil dv).mono ?_)
 rintro e_ b9 ⟨bb, ap, ed, ee, rfl, dj, cf⟩
 have cm := am.call cf
 refine ⟨_, rfl, ?_⟩
 refine wR 1 [(0, .slice l g.length k), (2, iv q), (8, .slice bb b4.length ap)] b9 (W_nil (N_then (G_seq (G_seq (G_region (wR 1 [(0, .slice l g.length k), (2, iv q), (8, .slice bb b4.length ap), (9, iv 0)] b9 (W_nil (N_then ?_))))))))
 obtain ⟨b2, dz, df⟩ := gx_bind hm
 refine G_meet (fun a w' => ∃ (ac : Option Addr), ∃ (W : Nat), ∃ (af : Seg), ∃ (ag : Seg), ownD deepBalloon b2 ac W af ag ∧ Mem [] w w' [af, ag] ∧ Sat Try.f30.ntmps [(0, .slice l g.length k), (2, iv q), (8, .slice ac b2.length W)] a) ?_ ?_
 ·refine G_block (G_while (σ := List Balloon × Int) (ρ := List Balloon) (fun o a w' => ∃ (B : Option Addr), ∃ (F : Nat), ∃ (ad : Seg), ∃ (ae : Seg), ownD deepBalloon o.1 B F ad ae ∧ Mem [] w w' [ad, ae] ∧ Sat Try.f30.ntmps [(0, .slice l g.length k), (2, iv q), (8, .slice B o.1.length F), (9, iv o.2)] a) dz (fun a ha => ⟨bb, ap, ed, ee, dj, cm.pk [0, 1], ha.s⟩) ?_)
  clear hm
  intro o fg hm dr e5 V ⟨B, F, ad, ae, a8, N, c4⟩
  refine G_use c4 (G_seq (G_seq (G_region (wR 4 [(0, .slice l g.length k), (2, iv q), (8, .slice B o.1.length F), (9, iv o.2), (29, .bool (decide (o.2 < (o.1.length : Int))))] V (W_nil (N_then ?_))))))
  rcases gx_bif hm with ⟨ax, hm⟩ | ⟨ax, hm⟩
  ·refine gT ax (G_skip (N_then (G_seq (G_block (G_region (wR 4 [(0, .slice l g.length k), (2, iv q), (8, .slice B o.1.length F), (9, iv o.2), (32, .slice B o.1.length F), (33, iv o.2), (34, .slice B o.1.length F), (35, iv o.2)] V ?_))))))
   obtain ⟨al, d2, hm⟩ := gx_bind hm
   obtain ⟨fj, b1, a9, db⟩ := id a8
   obtain ⟨K, X⟩ := gxIdx_fst b1 d2
   refine wV (elemP B (o.2.toNat * 3)) V (eI (a9.rd N 0 (by kernel_rfl)) (len_fst b1) X) (wV (elemP B (o.2.toNat * 3 + 2)) V (eF 2 (o.2.toNat * 3) 2 (a9.rd N 0 (by kernel_rfl)) X) (wV (.slice ((K 0).1) al.Gave.length ((K 0).2)) V (eE false 1 2 (o.2.toNat * 3 + 2) (a9.rd N 0 (by kernel_rfl)) X) ?_))
   obtain ⟨b5, dw, hm⟩ := gx_bind hm
   refine wC 58 #[.slice B o.1.length F, iv o.2, iv 0, .slice ((K 0).1) al.Gave.length ((K 0).2)] ((c_s_l18With V o.1 B F (a8.rd N 0 (by kernel_rfl) 1 (by kernel_rfl)) o.2 0 al.Gave ((K 0).1) ((K 0).2) ((db.rd N 1 (by kernel_rfl)).at_ X 0 ⟨Int, Gx.encI, al.Gave, (K 0).1, (K 0).2⟩ (by kernel_rfl)) dw).mono ?_)
   rintro e_ ca ⟨bc, aq, ef, eg, rfl, dl, cg⟩
   have cn := N.call cg
   refine ⟨_, rfl, ?_⟩
   refine wR 1 [(0, .slice l g.length k), (2, iv q), (8, .slice bc b5.length aq), (9, iv o.2)] ca (W_nil (N_block (N_then (G_region (wR 3 [(0, .slice l g.length k), (2, iv q), (8, .slice bc b5.length aq), (9, iv (w64 (o.2 + 1)))] ca (W_nil ?_))))))
   obtain rfl := Option.some.inj hm
   exact N_loop fun a ha => ⟨_, rfl, bc, aq, ef, eg, dl, cn.pk [2, 3], ha.s⟩
  refine gF ax (G_exit (N_then_exit (N_then_exit (N_block_eq ?_))))
  obtain rfl := Option.some.inj hm
  obtain rfl := dr _ rfl
  exact N_meet fun a ha => ⟨B, F, ad, ae, a8, N.pk [0, 1], ha.s⟩
 intro e6 w6402 ⟨ac, W, af, ag, dk, co, c5⟩
 refine N_use c5 ?_
 have hm := df
 refine N_then (G_seq ?_)
 obtain ⟨d9, d0, bz⟩ := gx_bind hm
 refine G_meet (fun a w' => ∃ (T : List Balloon), ∃ (U : Option Addr), ∃ (P : Nat), ∃ (ah : Seg), ∃ (ai : Seg), ownD deepBalloon T U P ah ai ∧ d9 = .inl T ∧ Mem [] w w' [ah, ai] ∧ Sat Try.f30.ntmps [(8, .slice U T.length P)] a) ?_ ?_
 ·refine G_block (G_while (σ := Int × List Balloon) (ρ := (List Balloon) ⊕ ((List Balloon) × Bool)) (fun c a w' => ∃ (b : Option Addr), ∃ (m : Nat), ∃ (G : Seg), ∃ (H : Seg), ownD deepBalloon c.2 b m G H ∧ Mem [] w w' [G, H] ∧ Sat Try.f30.ntmps [(0, .slice l g.length k), (2, iv c.1), (8, .slice b c.2.length m)] a) d0 (fun a ha => ⟨ac, W, af, ag, dk, co.pk [0, 1], ha.s⟩) ?_)
  clear hm
  intro c fh hm b0 e7 bf ⟨b, m, G, H, Z, bk, c6⟩
  refine G_use c6 (G_seq (G_seq (G_region (wR 2 [(0, .slice l g.length k), (2, iv c.1), (8, .slice b c.2.length m), (41, .bool (decide (c.1 > 0)))] bf (W_nil (N_then ?_))))))
  rcases gx_bif hm with ⟨ay, hm⟩ | ⟨ay, hm⟩
  ·refine gT ay (G_skip (N_then (G_seq (G_block (G_seq (G_region (wR 2 [(0, .slice l g.length k), (2, iv c.1), (8, .slice b c.2.length m), (10, iv (-1)), (11, iv 1)] bf (W_nil (N_then (G_seq (G_seq (G_region (wR 1 [(0, .slice l g.length k), (2, iv c.1), (8, .slice b c.2.length m), (10, iv (-1)), (11, iv 1), (12, iv 0)] bf (W_nil (N_then ?_)))))))))))))))
   obtain ⟨n, d1, dg⟩ := gx_bind hm
   refine G_meet (fun a w' => Mem [] w w' [G, H] ∧ Sat Try.f30.ntmps [(0, .slice l g.length k), (2, iv c.1), (8, .slice b c.2.length m), (10, iv n)] a) ?_ ?_
   ·refine G_block (G_while (σ := Int × Int × Int) (ρ := Int) (fun d a w' => Mem [] w w' [G, H] ∧ Sat Try.f30.ntmps [(0, .slice l g.length k), (2, iv c.1), (8, .slice b c.2.length m), (10, iv d.1), (11, iv d.2.1), (12, iv d.2.2)] a) d1 (fun a ha => ⟨bk.pk [0, 1], ha.s⟩) ?_)
    clear hm
    intro d fi hm ds e8 em ⟨bl, c7⟩
    refine G_use c7 (G_seq (G_seq (G_region (wR 4 [(0, .slice l g.length k), (2, iv c.1), (8, .slice b c.2.length m), (10, iv d.1), (11, iv d.2.1), (12, iv d.2.2), (47, .bool (decide (d.2.2 < (c.2.length : Int))))] em (W_nil (N_then ?_))))))
    rcases gx_bif hm with ⟨az, hm⟩ | ⟨az, hm⟩
    ·refine gT az (G_skip (N_then (G_seq (G_block (G_seq (G_quiet (by kernel_rfl) (by kernel_rfl) bl (zR [.slice l g.length k, .slice b c.2.length m, iv d.2.2] [(0, .slice l g.length k), (2, iv c.1), (8, .slice b c.2.length m), (10, iv d.1), (11, iv d.2.1), (12, iv d.2.2), (50, .slice l g.length k), (51, .slice b c.2.length m), (52, iv d.2.2)] ?_)))))))
     obtain ⟨bi, d3, hm⟩ := gx_bind hm
     obtain ⟨fk, S, J, ff⟩ := id Z
     obtain ⟨fc, a4⟩ := gxIdx_fst S d3
     refine zV (elemP b (d.2.2.toNat * 3)) (fun w_ M_ => (eI (J.rd M_ 0 (by kernel_rfl)) (len_fst S) a4)) (zV (elemP b (d.2.2.toNat * 3 + 0)) (fun w_ M_ => (eF 0 (d.2.2.toNat * 3) 0 (J.rd M_ 0 (by kernel_rfl)) a4)) (zV (iv bi.Guest) (fun w_ M_ => (eE false 1 0 (d.2.2.toNat * 3 + 0) (J.rd M_ 0 (by kernel_rfl)) a4)) ?_))
     obtain ⟨C, dx, hm⟩ := gx_bind hm
     refine Z_call 65 #[.slice l g.length k, iv bi.Guest] (iv C) (by kernel_rfl) (fun w_ => by kernel_rfl) (fun w_ M_ => (c_s_l18Count w_ g l k (bw.mem0 M_) bi.Guest dx).mono fun e w2_ h_ => ⟨h_.1, M_.call0 h_.2⟩) (zR [.slice b c.2.length m, iv d.2.2] [(0, .slice l g.length k), (2, iv c.1), (8, .slice b c.2.length m), (10, iv d.1), (11, iv d.2.1), (12, iv d.2.2), (56, iv C), (57, .slice b c.2.length m), (58, iv d.2.2)] ?_)
     obtain ⟨E, d4, hm⟩ := gx_bind hm
     obtain ⟨bv, a5⟩ := gxIdx_fst S d4
     refine zV (elemP b (d.2.2.toNat * 3)) (fun w_ M_ => (eI (J.rd M_ 0 (by kernel_rfl)) (len_fst S) a5)) (zV (elemP b (d.2.2.toNat * 3 + 2)) (fun w_ M_ => (eF 2 (d.2.2.toNat * 3) 2 (J.rd M_ 0 (by kernel_rfl)) a5)) (zV (.slice ((bv 0).1) E.Gave.length ((bv 0).2)) (fun w_ M_ => (eE false 1 2 (d.2.2.toNat * 3 + 2) (J.rd M_ 0 (by kernel_rfl)) a5)) (zR [iv (E.Gave.length : Int), iv (w64 (C + (E.Gave.length : Int))), .slice b c.2.length m, iv d.2.2] [(0, .slice l g.length k), (2, iv c.1), (8, .slice b c.2.length m), (10, iv d.1), (11, iv d.2.1), (12, iv d.2.2), (63, iv (w64 (C + (E.Gave.length : Int)))), (64, .slice b c.2.length m), (65, iv d.2.2)] ?_)))
     obtain ⟨L, d5, hm⟩ := gx_bind hm
     obtain ⟨fd, a6⟩ := gxIdx_fst S d5
     refine zV (elemP b (d.2.2.toNat * 3)) (fun w_ M_ => (eI (J.rd M_ 0 (by kernel_rfl)) (len_fst S) a6)) (zV (elemP b (d.2.2.toNat * 3 + 1)) (fun w_ M_ => (eF 1 (d.2.2.toNat * 3) 1 (J.rd M_ 0 (by kernel_rfl)) a6)) (zV (iv L.Goal) (fun w_ M_ => (eE false 1 1 (d.2.2.toNat * 3 + 1) (J.rd M_ 0 (by kernel_rfl)) a6)) (zR [iv (w64 ((w64 (C + (E.Gave.length : Int))) - L.Goal)), iv (w64 ((w64 (C + (E.Gave.length : Int))) - L.Goal))] [(0, .slice l g.length k), (2, iv c.1), (8, .slice b c.2.length m), (10, iv d.1), (11, iv d.2.1), (12, iv d.2.2), (13, iv (w64 ((w64 (C + (E.Gave.length : Int))) - L.Goal)))] (Z_end fun bg bm => (N_then (G_seq (G_region (wR 3 [(0, .slice l g.length k), (2, iv c.1), (8, .slice b c.2.length m), (10, iv d.1), (11, iv d.2.1), (12, iv d.2.2), (13, iv (w64 ((w64 (C + (E.Gave.length : Int))) - L.Goal))), (72, .bool (decide ((w64 ((w64 (C + (E.Gave.length : Int))) - L.Goal)) > d.2.1)))] bg (W_nil (N_then ?_))))))))))
     obtain ⟨ab, dn, de⟩ := gx_bind hm
     refine G_meet (fun a w' => Mem [] w w' [G, H] ∧ Sat Try.f30.ntmps [(0, .slice l g.length k), (2, iv c.1), (8, .slice b c.2.length m), (10, iv ab.1), (11, iv ab.2), (12, iv d.2.2)] a) ?_ ?_
     ·have hm := dn
      rcases gx_bif hm with ⟨a0, hm⟩ | ⟨a0, hm⟩
      ·refine gT a0 (G_seq (G_region (wR 2 [(0, .slice l g.length k), (2, iv c.1), (8, .slice b c.2.length m), (10, iv d.2.2), (12, iv d.2.2), (13, iv (w64 ((w64 (C + (E.Gave.length : Int))) - L.Goal)))] bg (W_nil (N_then (G_region (wR 2 [(0, .slice l g.length k), (2, iv c.1), (8, .slice b c.2.length m), (10, iv d.2.2), (11, iv (w64 ((w64 (C + (E.Gave.length : Int))) - L.Goal))), (12, iv d.2.2)] bg (W_nil ?_))))))))
       obtain rfl := Option.some.inj hm
       exact N_meet fun a ha => ⟨bm.pk [0, 1], ha.s⟩
      refine gF a0 (G_skip ?_)
      obtain rfl := Option.some.inj hm
      exact N_meet fun a ha => ⟨bm.pk [0, 1], ha.s⟩
     intro e9 en ⟨cp, c8⟩
     refine N_use c8 ?_
     have hm := de
     refine N_block (N_then (G_region (wR 3 [(0, .slice l g.length k), (2, iv c.1), (8, .slice b c.2.length m), (10, iv ab.1), (11, iv ab.2), (12, iv (w64 (d.2.2 + 1)))] en (W_nil ?_))))
     obtain rfl := Option.some.inj hm
     exact N_loop fun a ha => ⟨_, rfl, cp.pk [0, 1], ha.s⟩
    refine gF az (G_exit (N_then_exit (N_then_exit (N_block_eq ?_))))
    obtain rfl := Option.some.inj hm
    obtain rfl := ds _ rfl
    exact N_meet fun a ha => ⟨bl.pk [0, 1], ha.s⟩
   intro fa bh ⟨bn, c9⟩
   refine N_use c9 ?_
   have hm := dg
   refine N_then (G_seq (G_seq (G_region (wR 2 [(0, .slice l g.length k), (2, iv c.1), (8, .slice b c.2.length m), (10, iv n), (76, .bool (decide (n < 0)))] bh (W_nil (N_then ?_))))))
   rcases gx_bif hm with ⟨a3, hm⟩ | ⟨a3, hm⟩
   ·refine gT a3 (G_seq (G_region ?_))
    have cq : Mem [] w bh [G, H] := bn.pk [0, 1]
    have cr : Mem [] w bh [G, H, []] := cq.regroup (by simp)
    refine W_litD (D := deepBalloon) [] ([] : List Balloon) rfl 0 [] 50 cr (by kernel_rfl) (by kernel_rfl) (by kernel_rfl) (by kernel_rfl) (by kernel_rfl) ownI_nil ?_
    intro bd ar eh eo dp cs
    refine wR 2 [(6, .slice bd ([] : List Balloon).length ar), (7, .bool false)] eo (W_nil (N_then (G_ret (N_then_ret (N_block_ret (N_then_ret (N_then_ret ?_)))))))
    obtain rfl := Option.some.inj hm
    obtain rfl := b0 _ rfl
    have hm := bz; simp only [Sum.elim_inr] at hm
    refine N_block_ret (N_meet_ret (N_then_ret ?_))
    obtain rfl := Option.some.inj hm
    exact N_ret [.slice bd ([] : List Balloon).length ar, .bool false] (rC (rC RVs_nil)) (⟨bd, ar, eh, [], rfl, dp, cs.pk [3, 2]⟩)
   refine gF a3 (G_skip (N_then ?_))
   obtain ⟨I, d6, hm⟩ := gx_bind hm
   obtain ⟨fl, aa, Q, dc⟩ := id Z
   obtain ⟨fe, a7⟩ := gxIdx_fst aa d6
   obtain ⟨O, d7, hm⟩ := gx_bind hm
   obtain ⟨y, Y⟩ := gxIdx_fst aa d7
   refine G_sub [(0, .slice l g.length k), (2, iv c.1), (8, .slice b c.2.length m), (10, iv n), (76, .bool (decide (n < 0)))] (by kernel_rfl) (G_dagL 13 [[], [], [], [], [2, 3], [4], [5], [6], [], [], [8, 9], [10], [11]] [[], [], [], [], [], [], [], [], [], [], [], [], []] [[], [], [], [], [], [], [], [], [], [], [], [], []] [[], [], [], [], [], [], [], [], [], [], [], [], []] [[], [], [], [], [], [], [], [], [], [], [], [], []] [[], [], [], [], [], [], [], [], [], [], [], [], []] (fun _ => []) (fun i => ([fun f v s => v = (.slice b c.2.length m : Value) ∧ s = [], fun f v s => v = (iv n : Value) ∧ s = [], fun f v s => v = (.slice b c.2.length m : Value) ∧ s = [], fun f v s => v = (iv n : Value) ∧ s = [], fun f v s => v = (elemP b (n.toNat * 3) : Value) ∧ s = [], fun f v s => v = (elemP b (n.toNat * 3 + 1) : Value) ∧ s = [], fun f v s => v = (iv I.Goal : Value) ∧ s = [], fun f v s => v = (iv (w64 (I.Goal + 1)) : Value) ∧ s = [], fun f v s => v = (.slice b c.2.length m : Value) ∧ s = [], fun f v s => v = (iv n : Value) ∧ s = [], fun f v s => v = (elemP b (n.toNat * 3) : Value) ∧ s = [], fun f v s => v = (elemP b (n.toNat * 3 + 2) : Value) ∧ s = [], fun f v s => v = (.slice ((y 0).1) O.Gave.length ((y 0).2) : Value) ∧ s = []] : List ((Nat → Value) → Value → Seg → Prop)).getD i (fun _ _ _ => False)) (fun j f v => ∃ s, (fun i => ([fun f v s => v = (.slice b c.2.length m : Value) ∧ s = [], fun f v s => v = (iv n : Value) ∧ s = [], fun f v s => v = (.slice b c.2.length m : Value) ∧ s = [], fun f v s => v = (iv n : Value) ∧ s = [], fun f v s => v = (elemP b (n.toNat * 3) : Value) ∧ s = [], fun f v s => v = (elemP b (n.toNat * 3 + 1) : Value) ∧ s = [], fun f v s => v = (iv I.Goal : Value) ∧ s = [], fun f v s => v = (iv (w64 (I.Goal + 1)) : Value) ∧ s = [], fun f v s => v = (.slice b c.2.length m : Value) ∧ s = [], fun f v s => v = (iv n : Value) ∧ s = [], fun f v s => v = (elemP b (n.toNat * 3) : Value) ∧ s = [], fun f v s => v = (elemP b (n.toNat * 3 + 2) : Value) ∧ s = [], fun f v s => v = (.slice ((y 0).1) O.Gave.length ((y 0).2) : Value) ∧ s = []] : List ((Nat → Value) → Value → Seg → Prop)).getD i (fun _ _ _ => False)) j f v s) [] [0, 1, 7, 12] [] (fun _ _ _ s h => ⟨s, h⟩) (by kernel_rfl) (by kernel_rfl) (bn.preNil 13) (by kernel_rfl) (by kernel_rfl) (by kernel_rfl) (by kernel_rfl) (allOb_cons ?_ (allOb_cons ?_ (allOb_cons ?_ (allOb_cons ?_ (allOb_cons ?_ (allOb_cons ?_ (allOb_cons ?_ (allOb_cons ?_ (allOb_cons ?_ (allOb_cons ?_ (allOb_cons ?_ (allOb_cons ?_ (allOb_cons ?_ allOb_nil))))))))))))) ?_)
   ·intro A z
    intro R ep ct
    exact wR 1 [(78, .slice b c.2.length m)] ep (W_nil (oE (.slice b c.2.length m) [] ⟨by kernel_rfl, rfl⟩ ct))
   ·intro A z
    intro R er cu
    exact wR 1 [(79, iv n)] er (W_nil (oE (iv n) [] ⟨by kernel_rfl, rfl⟩ cu))
   ·intro A z
    intro R es cv
    exact wR 1 [(80, .slice b c.2.length m)] es (W_nil (oE (.slice b c.2.length m) [] ⟨by kernel_rfl, rfl⟩ cv))
   ·intro A z
    intro R et cw
    exact wR 1 [(81, iv n)] et (W_nil (oE (iv n) [] ⟨by kernel_rfl, rfl⟩ cw))
   ·intro A z
    intro v2_ hb2_
    obtain ⟨rfl, _⟩ := hb2_
    intro v3_ hb3_
    obtain ⟨rfl, _⟩ := hb3_
    intro R eu bo
    exact wV (elemP b (n.toNat * 3)) eu (eI (Q.rd bo 0 (by kernel_rfl)) (len_fst aa) a7) (W_nil (oE (elemP b (n.toNat * 3)) [] ⟨by kernel_rfl, rfl⟩ bo))
   ·intro A z
    intro v4_ hb4_
    obtain ⟨rfl, _⟩ := hb4_
    intro R ev bp
    exact wV (elemP b (n.toNat * 3 + 1)) ev (eF 1 (n.toNat * 3) 1 (Q.rd bp 0 (by kernel_rfl)) a7) (W_nil (oE (elemP b (n.toNat * 3 + 1)) [] ⟨by kernel_rfl, rfl⟩ bp))
   ·intro A z
    intro v5_ hb5_
    obtain ⟨rfl, _⟩ := hb5_
    intro R ew bq
    exact wV (iv I.Goal) ew (eE false 1 1 (n.toNat * 3 + 1) (Q.rd bq 0 (by kernel_rfl)) a7) (W_nil (oE (iv I.Goal) [] ⟨by kernel_rfl, rfl⟩ bq))
   ·intro A z
    intro v6_ hb6_
    obtain ⟨rfl, _⟩ := hb6_
    intro R ex cx
    exact wR 1 [(85, iv (w64 (I.Goal + 1)))] ex (W_nil (oE (iv (w64 (I.Goal + 1))) [] ⟨by kernel_rfl, rfl⟩ cx))
   ·intro A z
    intro R ey cy
    exact wR 1 [(86, .slice b c.2.length m)] ey (W_nil (oE (.slice b c.2.length m) [] ⟨by kernel_rfl, rfl⟩ cy))
   ·intro A z
    intro R ez cz
    exact wR 1 [(87, iv n)] ez (W_nil (oE (iv n) [] ⟨by kernel_rfl, rfl⟩ cz))
   ·intro A z
    intro v8_ hb8_
    obtain ⟨rfl, _⟩ := hb8_
    intro v9_ hb9_
    obtain ⟨rfl, _⟩ := hb9_
    intro R e0 br
    exact wV (elemP b (n.toNat * 3)) e0 (eI (Q.rd br 0 (by kernel_rfl)) (len_fst aa) Y) (W_nil (oE (elemP b (n.toNat * 3)) [] ⟨by kernel_rfl, rfl⟩ br))
   ·intro A z
    intro v10_ hb10_
    obtain ⟨rfl, _⟩ := hb10_
    intro R e1 bs
    exact wV (elemP b (n.toNat * 3 + 2)) e1 (eF 2 (n.toNat * 3) 2 (Q.rd bs 0 (by kernel_rfl)) Y) (W_nil (oE (elemP b (n.toNat * 3 + 2)) [] ⟨by kernel_rfl, rfl⟩ bs))
   ·intro A z
    intro v11_ hb11_
    obtain ⟨rfl, _⟩ := hb11_
    intro R e2 bt
    exact wV (.slice ((y 0).1) O.Gave.length ((y 0).2)) e2 (eE false 1 2 (n.toNat * 3 + 2) (Q.rd bt 0 (by kernel_rfl)) Y) (W_nil (oE (.slice ((y 0).1) O.Gave.length ((y 0).2)) [] ⟨by kernel_rfl, rfl⟩ bt))
   intro A z
   intro v0_ hb0_
   obtain ⟨rfl, _⟩ := hb0_
   intro v1_ hb1_
   obtain ⟨rfl, _⟩ := hb1_
   intro v7_ hb7_
   obtain ⟨rfl, _⟩ := hb7_
   intro v12_ hb12_
   obtain ⟨rfl, _⟩ := hb12_
   intro cb c0
   have an : Mem [] w cb [G, H] := c0
   obtain ⟨b6, dy, hm⟩ := gx_bind hm
   refine wC 58 #[.slice b c.2.length m, iv n, iv (w64 (I.Goal + 1)), .slice ((y 0).1) O.Gave.length ((y 0).2)] ((c_s_l18With cb c.2 b m (Z.rd an 0 (by kernel_rfl) 1 (by kernel_rfl)) n (w64 (I.Goal + 1)) O.Gave ((y 0).1) ((y 0).2) ((dc.rd an 1 (by kernel_rfl)).at_ Y 0 ⟨Int, Gx.encI, O.Gave, (y 0).1, (y 0).2⟩ (by kernel_rfl)) dy).mono ?_)
   rintro e_ cc ⟨be, au, ei, ej, rfl, dq, ch⟩
   have c1 := an.call ch
   refine ⟨_, rfl, ?_⟩
   refine wR 1 [(0, .slice l g.length k), (2, iv c.1), (8, .slice be b6.length au)] cc (W_nil (N_block (N_then (G_region (wR 3 [(0, .slice l g.length k), (2, iv (w64 (c.1 - 1))), (8, .slice be b6.length au)] cc (W_nil ?_))))))
   obtain rfl := Option.some.inj hm
   exact N_loop fun a ha => ⟨_, rfl, be, au, ei, ej, dq, c1.pk [2, 3], ha.s⟩
  refine gF ay (G_exit (N_then_exit (N_then_exit (N_block_eq ?_))))
  obtain rfl := Option.some.inj hm
  obtain rfl := b0 _ rfl
  exact N_meet fun a ha => ⟨_, b, m, G, H, Z, rfl, bk.pk [0, 1], ha.s⟩
 intro fb e3 ⟨T, U, P, ah, ai, dm, hout_, c2, da⟩
 refine N_use da ?_
 subst hout_
 have hm := bz; simp only [Sum.elim_inl] at hm
 refine N_then (G_seq (G_region (wR 3 [(6, .slice U T.length P), (7, .bool true)] e3 (W_nil (N_then (G_ret ?_))))))
 obtain rfl := Option.some.inj hm
 exact N_ret [.slice U T.length P, .bool true] (rC (rC RVs_nil)) (⟨U, P, ah, ai, rfl, dm, c2.pk [0, 1]⟩)
theorem c_i_framesOf (w : World) (c : List Int) (d : Option Addr) (g : Nat) (I : rdS Gx.encI w c d g) (f : Int) {r : (List Int)} (hm : M.i_framesOf c f = some r) :
  Calls Try.prog 66 #[.slice d c.length g, iv f] w fun e w' => ∃ (K : Option Addr) (G : Nat) (N : Seg), e = .returned (.slice K r.length G) ∧ ownS Gx.encI r K G N ∧ Mem [] w w' [N] := by
 unfold M.i_framesOf at hm
 refine cE Try.func66 ?_
 have M0 := Mem.refl [] w
 refine G_seq (G_region (wR 1 [(0, .slice d c.length g), (1, iv f)] w (W_nil (N_then (G_seq (G_region (wL (E := Gx.encI) ([] : List Int) 0 [] 3 M0 ?_)))))))
 intro C x ai O aa P
 refine wR 1 [(0, .slice d c.length g), (1, iv f), (5, .slice C ([] : List Int).length x)] O (W_nil (N_then (G_seq (G_seq (G_region (wR 3 [(1, iv f), (5, .slice C ([] : List Int).length x), (9, .slice d c.length g), (10, iv (c.length : Int)), (11, iv 0)] O (W_nil (N_then ?_))))))))
 obtain ⟨t, ah, Z⟩ := gx_bind hm
 refine G_meet (fun a w' => ∃ (l : Option Addr), ∃ (k : Nat), ∃ (u : Seg), ownS Gx.encI t l k u ∧ Mem [] w w' [u] ∧ Sat Try.f66.ntmps [(5, .slice l t.length k)] a) ?_ ?_
 ·refine G_block (G_while (σ := List Int × Int) (ρ := List Int) (fun b a w' => ∃ (i : Option Addr), ∃ (h : Nat), ∃ (q : Seg), ownS Gx.encI b.1 i h q ∧ Mem [] w w' [q] ∧ Sat Try.f66.ntmps [(1, iv f), (5, .slice i b.1.length h), (9, .slice d c.length g), (10, iv (c.length : Int)), (11, iv b.2)] a) ah (fun a ha => ⟨C, x, ai, aa, P.pk [0], ha.s⟩) ?_)
  clear hm
  intro b aw hm ag an j ⟨i, h, q, A, m, U⟩
  refine G_use U (G_seq (G_region (wR 1 [(1, iv f), (5, .slice i b.1.length h), (9, .slice d c.length g), (10, iv (c.length : Int)), (11, iv b.2), (12, .bool (decide (b.2 < (c.length : Int))))] j (W_nil (N_then (G_seq ?_))))))
  rcases gx_bif hm with ⟨y, hm⟩ | ⟨y, hm⟩
  ·refine gT y (G_skip (N_then (G_seq (G_block (G_seq (G_region (wR 1 [(1, iv f), (5, .slice i b.1.length h), (9, .slice d c.length g), (10, iv (c.length : Int)), (11, iv b.2), (13, iv b.2)] j ?_)))))))
   obtain ⟨D, J, hm⟩ := gx_bind hm
   refine wV (elemP d (b.2.toNat * 1)) j (eI (I.mem0 m) rfl J) (wV (iv D) j (eE false 1 0 (b.2.toNat * 1) (I.mem0 m) J) (wR 2 [(1, iv f), (5, .slice i b.1.length h), (6, iv b.2), (7, iv D), (9, .slice d c.length g), (10, iv (c.length : Int)), (11, iv b.2)] j (W_nil (N_then (G_seq (G_region (wR 3 [(1, iv f), (5, .slice i b.1.length h), (6, iv b.2), (9, .slice d c.length g), (10, iv (c.length : Int)), (11, iv b.2), (18, .bool (D == f))] j (W_nil (N_then ?_)))))))))
   obtain ⟨B, ac, Y⟩ := gx_bind hm
   refine G_meet (fun a w' => ∃ (o : Option Addr), ∃ (n : Nat), ∃ (v : Seg), ownS Gx.encI B o n v ∧ Mem [] w w' [v] ∧ Sat Try.f66.ntmps [(1, iv f), (5, .slice o B.length n), (9, .slice d c.length g), (10, iv (c.length : Int)), (11, iv b.2)] a) ?_ ?_
   ·have hm := ac
    rcases gx_bif hm with ⟨z, hm⟩ | ⟨z, hm⟩
    ·refine gT z (G_region (wR 2 [(1, iv f), (5, .slice i b.1.length h), (9, .slice d c.length g), (10, iv (c.length : Int)), (11, iv b.2), (19, .slice i b.1.length h), (20, iv b.2)] j (wL (E := Gx.encI) [b.2] 1 [iv b.2] 3 m ?_)))
     intro ar aq au av ae F
     obtain ⟨T, X, hm⟩ := gx_bind hm
     refine wA 8 [iv 0] 0 F A (ae.rd F 1 (by kernel_rfl)) X ?_
     intro L H aj ak af Q
     refine wR 1 [(1, iv f), (5, .slice L T.length H), (9, .slice d c.length g), (10, iv (c.length : Int)), (11, iv b.2)] ak (W_nil ?_)
     obtain rfl := Option.some.inj hm
     exact N_meet fun a ha => ⟨L, H, aj, af, Q.pk [0], ha.s⟩
    refine gF z (G_skip ?_)
    obtain rfl := Option.some.inj hm
    exact N_meet fun a ha => ⟨i, h, q, A, m.pk [0], ha.s⟩
   intro ao al ⟨o, n, v, ad, R, V⟩
   refine N_use V ?_
   have hm := Y
   refine N_block (N_then (G_region (wR 2 [(1, iv f), (5, .slice o B.length n), (9, .slice d c.length g), (10, iv (c.length : Int)), (11, iv (w64 (b.2 + 1)))] al (W_nil ?_))))
   obtain rfl := Option.some.inj hm
   exact N_loop fun a ha => ⟨_, rfl, o, n, v, ad, R.pk [0], ha.s⟩
  refine gF y (G_exit (N_then_exit (N_then_exit (N_block_eq ?_))))
  obtain rfl := Option.some.inj hm
  obtain rfl := ag _ rfl
  exact N_meet fun a ha => ⟨i, h, q, A, m.pk [0], ha.s⟩
 intro ap am ⟨l, k, u, ab, S, W⟩
 refine N_use W ?_
 have hm := Z
 refine N_then (G_seq (G_region (wR 2 [(4, .slice l t.length k)] am (W_nil (N_then (G_ret ?_))))))
 obtain rfl := Option.some.inj hm
 exact N_ret [.slice l t.length k] (rC RVs_nil) (⟨l, k, u, rfl, ab, S.pk [0]⟩)
theorem c_slices_Max_67 (w : World) (b : List Int) (c : Option Addr) (f : Nat) (i : rdS Gx.encI w b c f) {r : Int} (hm : M.slices_Max_67 b = some r) :
  Calls Try.prog 67 #[.slice c b.length f] w fun e w' => e = .returned (iv r) ∧ Mem [] w w' [] := by
 unfold M.slices_Max_67 at hm
 refine cE Try.func67 ?_
 have M0 := Mem.refl [] w
 refine G_seq (G_region (wR 1 [(0, .slice c b.length f)] w (W_nil (N_then (G_seq (G_seq (G_region (wR 3 [(0, .slice c b.length f), (7, .bool (decide ((b.length : Int) < 1)))] w (W_nil (N_then ?_))))))))))
 rcases gx_bif hm with ⟨j, hm⟩ | ⟨j, hm⟩
 ·refine gT j ?_
  cases hm
 refine gF j (G_skip (N_then (G_seq (G_region (wR 1 [(0, .slice c b.length f), (9, .slice c b.length f)] w ?_)))))
 obtain ⟨m, o, hm⟩ := gx_bind hm
 refine wV (elemP c ((0 : Int).toNat * 1)) w (eI (i.mem0 M0) rfl o) (wV (iv m) w (eE false 1 0 ((0 : Int).toNat * 1) (i.mem0 M0) o) (wR 1 [(0, .slice c b.length f), (3, iv m)] w (W_nil (N_then (G_seq (G_seq (G_region (wR 1 [(0, .slice c b.length f), (3, iv m), (4, iv 1)] w (W_nil (N_then ?_))))))))))
 obtain ⟨l, z, x⟩ := gx_bind hm
 refine G_meet (fun a w' => Mem [] w w' [] ∧ Sat Try.f67.ntmps [(3, iv l)] a) ?_ ?_
 ·refine G_block (G_while (σ := Int × Int) (ρ := Int) (fun d a w' => Mem [] w w' [] ∧ Sat Try.f67.ntmps [(0, .slice c b.length f), (3, iv d.1), (4, iv d.2)] a) z (fun a ha => ⟨M0.pk [], ha.s⟩) ?_)
  clear hm
  intro d D hm y B g ⟨h, u⟩
  refine G_use u (G_seq (G_seq (G_region (wR 4 [(0, .slice c b.length f), (3, iv d.1), (4, iv d.2), (15, .bool (decide (d.2 < (b.length : Int))))] g (W_nil (N_then ?_))))))
  rcases gx_bif hm with ⟨k, hm⟩ | ⟨k, hm⟩
  ·refine gT k (G_skip (N_then (G_seq (G_block (G_region (wR 3 [(0, .slice c b.length f), (3, iv d.1), (4, iv d.2), (18, iv d.1), (19, .slice c b.length f), (20, iv d.2)] g ?_))))))
   obtain ⟨n, q, hm⟩ := gx_bind hm
   refine wV (elemP c (d.2.toNat * 1)) g (eI (i.mem0 h) rfl q) (wV (iv n) g (eE false 1 0 (d.2.toNat * 1) (i.mem0 h) q) (wR 2 [(0, .slice c b.length f), (3, iv (gxMax d.1 n)), (4, iv d.2)] g (W_nil (N_block (N_then (G_region (wR 3 [(0, .slice c b.length f), (3, iv (gxMax d.1 n)), (4, iv (w64 (d.2 + 1)))] g (W_nil ?_))))))))
   obtain rfl := Option.some.inj hm
   exact N_loop fun a ha => ⟨_, rfl, h.pk [], ha.s⟩
  refine gF k (G_exit (N_then_exit (N_then_exit (N_block_eq ?_))))
  obtain rfl := Option.some.inj hm
  obtain rfl := y _ rfl
  exact N_meet fun a ha => ⟨h.pk [], ha.s⟩
 intro C A ⟨t, v⟩
 refine N_use v ?_
 have hm := x
 refine N_then (G_seq (G_region (wR 2 [(2, iv l)] A (W_nil (N_then (G_ret ?_))))))
 obtain rfl := Option.some.inj hm
 exact N_ret [iv l] (rC RVs_nil) (⟨rfl, t.pk []⟩)
theorem c_i_ShareGoals (w : World) (t : List Int) (x : Option Addr) (u : Nat) (bt : rdS Gx.encI w t x u) (n : List Balloon) (y : Option Addr) (z : Nat) (a5 : rdD deepBalloon w n y z) (k : Int) {r : (List Balloon) × Bool} (hm : M.i_ShareGoals t n k = some r) :
  Calls Try.prog 31 #[.slice x t.length u, .slice y n.length z, iv k] w fun e w' => ∃ (b6 : Option Addr) (bs : Nat) (b9 : Seg) (ca : Seg), e = .returned (.tuple #[.slice b6 r.1.length bs, .bool r.2]) ∧ ownD deepBalloon r.1 b6 bs b9 ca ∧ Mem [] w w' [b9, ca] := by
 unfold M.i_ShareGoals at hm
 refine cE Try.func31 ?_
 have M0 := Mem.refl [] w
 refine G_seq (G_region (wR 2 [(0, .slice x t.length u), (1, .slice y n.length z), (2, iv k)] w (W_nil (N_then (G_seq (G_seq ?_))))))
 obtain ⟨ea, di, df⟩ := gx_bind hm
 refine G_meet (fun a w' => Mem [] w w' [] ∧ Sat Try.f31.ntmps [(0, .slice x t.length u), (1, .slice y n.length z), (2, iv k), (21, .bool ea)] a) ?_ ?_
 ·have hm := di
  refine G_region (wR 2 [(0, .slice x t.length u), (1, .slice y n.length z), (2, iv k), (13, .slice x t.length u), (14, .slice y n.length z)] w ?_)
  obtain ⟨ed, dx, hm⟩ := gx_bind hm
  refine wC 17 #[.slice x t.length u, .slice y n.length z] ((c_i_AreBalloons w t x u (bt.mem0 M0) n y z (a5.mem0 M0) dx).mono ?_)
  rintro e_ au ⟨rfl, cf⟩
  have bl := M0.call0 cf
  refine ⟨_, rfl, ?_⟩
  refine wR 2 [(0, .slice x t.length u), (1, .slice y n.length z), (2, iv k), (17, .bool (!ed))] au ?_
  rcases gx_bif hm with ⟨a6, hm⟩ | ⟨a6, hm⟩
  ·refine wK 17 true a6 (wR 4 [(0, .slice x t.length u), (1, .slice y n.length z), (2, iv k), (21, .bool true)] au (W_nil ?_))
   obtain rfl := Option.some.inj hm
   exact N_meet fun a ha => ⟨bl.pk [], ha.s⟩
  refine wK 17 false a6 (wR 1 [(0, .slice x t.length u), (1, .slice y n.length z), (2, iv k), (17, .bool false), (18, iv k)] au ?_)
  obtain ⟨ee, dy, hm⟩ := gx_bind hm
  refine wC 51 #[iv k] ((c_i_isGoal au k dy).mono ?_)
  rintro e_ en ⟨rfl, cg⟩
  have cm := bl.call0 cg
  refine ⟨_, rfl, ?_⟩
  refine wR 2 [(0, .slice x t.length u), (1, .slice y n.length z), (2, iv k), (21, .bool (!ee))] en (W_nil ?_)
  obtain rfl := Option.some.inj hm
  exact N_meet fun a ha => ⟨cm.pk [], ha.s⟩
 intro e7 bi ⟨aw, c6⟩
 refine N_use c6 ?_
 have hm := df
 refine N_then ?_
 rcases gx_bif hm with ⟨a7, hm⟩ | ⟨a7, hm⟩
 ·refine gT a7 (G_seq (G_region (wR 2 [(6, .slice none 0 0), (7, .bool false)] bi (W_nil (N_then (G_ret (N_then_ret ?_)))))))
  obtain rfl := Option.some.inj hm
  exact N_ret [.slice none 0 0, .bool false] (rC (rC RVs_nil)) (⟨none, 0, [], [], rfl, ownD_nil, aw.pk [100000, 100001]⟩)
 refine gF a7 (G_skip (N_then (G_seq (G_region (wR 1 [(0, .slice x t.length u), (1, .slice y n.length z), (2, iv k), (22, .slice y n.length z)] bi ?_)))))
 obtain ⟨b7, dz, hm⟩ := gx_bind hm
 refine wC 60 #[.slice y n.length z] ((c_i_newBalloons bi n y z (a5.mem0 aw) dz).mono ?_)
 rintro e_ fi ⟨d, g, eg, eh, rfl, dj, ch⟩
 have cn := aw.call ch
 refine ⟨_, rfl, ?_⟩
 refine wL (E := Gx.encI) ([] : List Int) 0 [] 3 cn ?_
 intro bf az ei cd dk co
 refine wR 2 [(0, .slice x t.length u), (1, .slice y n.length z), (2, iv k), (8, .slice d b7.length g), (9, .slice bf ([] : List Int).length az)] cd (W_nil (N_then (G_seq (G_seq (G_region (wR 3 [(0, .slice x t.length u), (2, iv k), (8, .slice d b7.length g), (9, .slice bf ([] : List Int).length az), (25, .slice y n.length z), (26, iv (n.length : Int)), (27, iv 0)] cd (W_nil (N_then ?_))))))))
 obtain ⟨aa, d4, dh⟩ := gx_bind hm
 refine G_meet (fun a w' => ∃ (m : Option Addr), ∃ (o : Nat), ∃ (an : Seg), ∃ (ao : Seg), ∃ (ap : Seg), ownS Gx.encI aa.1 m o an ∧ ownD deepBalloon aa.2 d g ao ap ∧ Mem [] w w' [an, ao, ap] ∧ Sat Try.f31.ntmps [(2, iv k), (8, .slice d aa.2.length g), (9, .slice m aa.1.length o)] a) ?_ ?_
 ·refine G_block (G_while (σ := List Int × Int × List Balloon) (ρ := List Int × List Balloon) (fun c a w' => ∃ (H : Option Addr), ∃ (F : Nat), ∃ (ae : Seg), ∃ (am : Seg), ∃ (U : Seg), ownS Gx.encI c.1 H F ae ∧ ownD deepBalloon c.2.2 d g am U ∧ Mem [] w w' [ae, am, U] ∧ Sat Try.f31.ntmps [(0, .slice x t.length u), (2, iv k), (8, .slice d c.2.2.length g), (9, .slice H c.1.length F), (25, .slice y n.length z), (26, iv (n.length : Int)), (27, iv c.2.1)] a) d4 (fun a ha => ⟨bf, az, ei, eg, eh, dk, dj, co.pk [2, 0, 1], ha.s⟩) ?_)
  clear hm
  intro c fn hm dw e8 av ⟨H, F, ae, am, U, bw, bx, ai, c7⟩
  refine G_use c7 (G_seq (G_region (wR 1 [(0, .slice x t.length u), (2, iv k), (8, .slice d c.2.2.length g), (9, .slice H c.1.length F), (25, .slice y n.length z), (26, iv (n.length : Int)), (27, iv c.2.1), (28, .bool (decide (c.2.1 < (n.length : Int))))] av (W_nil (N_then (G_seq ?_))))))
  rcases gx_bif hm with ⟨a8, hm⟩ | ⟨a8, hm⟩
  ·refine gT a8 (G_skip (N_then (G_seq (G_block (G_seq (G_region (wR 1 [(0, .slice x t.length u), (2, iv k), (8, .slice d c.2.2.length g), (9, .slice H c.1.length F), (25, .slice y n.length z), (26, iv (n.length : Int)), (27, iv c.2.1), (29, iv c.2.1)] av ?_)))))))
   obtain ⟨l, d6, hm⟩ := gx_bind hm
   obtain ⟨fp, b5, b2, fe⟩ := id a5
   obtain ⟨D, bu⟩ := gxIdx_fst b5 d6
   refine wV (elemP y (c.2.1.toNat * 3)) av (eI (b2.mem0 ai) (len_fst b5) bu) (wV (.agg #[iv l.Guest, iv l.Goal, .slice ((D 0).1) l.Gave.length ((D 0).2)]) av (eE true 3 0 (c.2.1.toNat * 3) (b2.mem0 ai) bu) (wN (.cells ⟨[iv 0, iv 0, .slice none 0 0]⟩ 50 (0, 0)) ai ?_))
   intro I eo cp
   refine wR 1 [(0, .slice x t.length u), (2, iv k), (8, .slice d c.2.2.length g), (9, .slice H c.1.length F), (10, iv c.2.1), (11, pB I 0), (25, .slice y n.length z), (26, iv (n.length : Int)), (27, iv c.2.1), (31, .agg #[iv l.Guest, iv l.Goal, .slice ((D 0).1) l.Gave.length ((D 0).2)])] eo (wS true 3 0 (.agg #[iv l.Guest, iv l.Goal, .slice ((D 0).1) l.Gave.length ((D 0).2)]) 3 [iv l.Guest, iv l.Goal, .slice ((D 0).1) l.Gave.length ((D 0).2)] cp rfl ?_)
   intro bj ax
   refine W_nil (N_then (G_seq (G_region (wR 2 [(0, .slice x t.length u), (2, iv k), (8, .slice d c.2.2.length g), (9, .slice H c.1.length F), (11, pB I 0), (25, .slice y n.length z), (26, iv (n.length : Int)), (27, iv c.2.1), (32, .slice d c.2.2.length g), (33, iv c.2.1)] bj ?_))))
   obtain ⟨A, d7, hm⟩ := gx_bind hm
   obtain ⟨fq, al, be, dd⟩ := id bx
   obtain ⟨a3, ac⟩ := gxIdx_fst al d7
   refine wV (elemP d (c.2.1.toNat * 3)) bj (eI (be.rd ax 1 (by kernel_rfl)) (len_fst al) ac) (wV (elemP d (c.2.1.toNat * 3 + 1)) bj (eF 1 (c.2.1.toNat * 3) 1 (be.rd ax 1 (by kernel_rfl)) ac) (wE false 1 c.2.1.toNat 1 (c.2.1.toNat * 3 + 1) (A, a3) ((⟨A.Guest, 0, A.Gave⟩ : Balloon), a3) (iv 0) 1 ax be (gxIdx_spec ac).2 ?_))
   intro fj bh dn cq
   have dp : ownD deepBalloon (c.2.2.set c.2.1.toNat (⟨A.Guest, 0, A.Gave⟩ : Balloon)) d g bh U := ⟨_, set_fst al c.2.1.toNat ((⟨A.Guest, 0, A.Gave⟩ : Balloon), a3), dn, (by rw [flatMap_setSame (gxIdx_spec ac).2 (by kernel_rfl)]; exact dd)⟩
   have fg := gxIdx_put (⟨A.Guest, 0, A.Gave⟩ : Balloon) (gxIdx_down al ac)
   refine wX 8 (.slice d c.2.2.length g) (.slice d (c.2.2.set c.2.1.toNat (⟨A.Guest, 0, A.Gave⟩ : Balloon)).length g) (by rw [@List.length_set _ c.2.2 c.2.1.toNat (⟨A.Guest, 0, A.Gave⟩ : Balloon)]) (wX 32 (.slice d c.2.2.length g) (.slice d (c.2.2.set c.2.1.toNat (⟨A.Guest, 0, A.Gave⟩ : Balloon)).length g) (by rw [@List.length_set _ c.2.2 c.2.1.toNat (⟨A.Guest, 0, A.Gave⟩ : Balloon)]) (W_nil (N_then ?_)))
   obtain ⟨B, d0, hm⟩ := gx_bind hm
   refine G_sub [(0, .slice x t.length u), (2, iv k), (8, .slice d (c.2.2.set c.2.1.toNat (⟨A.Guest, 0, A.Gave⟩ : Balloon)).length g), (9, .slice H c.1.length F), (11, pB I 0), (25, .slice y n.length z), (26, iv (n.length : Int)), (27, iv c.2.1), (32, .slice d (c.2.2.set c.2.1.toNat (⟨A.Guest, 0, A.Gave⟩ : Balloon)).length g), (33, iv c.2.1), (34, elemP d (c.2.1.toNat * 3)), (35, elemP d (c.2.1.toNat * 3 + 1))] (by kernel_rfl) (G_dagL 11 [[], [], [], [2], [1, 3], [], [], [6], [7], [5, 8], [9]] [[], [], [], [], [], [], [], [], [], [], []] [[], [], [], [], [], [], [], [], [], [], []] [[], [], [], [], [], [4], [], [], [], [], []] [[], [], [], [], [], [], [], [], [], [], []] [[], [], [], [], [], [], [], [], [], [], []] (fun _ => []) (fun i => ([fun f v s => v = (.slice H c.1.length F : Value) ∧ s = [], fun f v s => v = (.slice x t.length u : Value) ∧ s = [], fun f v s => v = (pB I 0 : Value) ∧ s = [], fun f v s => v = (iv l.Guest : Value) ∧ s = [], fun f v s => ∃ (O : Option Addr) (N : Nat), v = (.slice O B.length N : Value) ∧ ownS Gx.encI B O N s, fun f v s => v = (iv (B.length : Int) : Value) ∧ s = [], fun f v s => v = (pB I 2 : Value) ∧ s = [], fun f v s => v = (.slice ((D 0).1) l.Gave.length ((D 0).2) : Value) ∧ s = [], fun f v s => v = (iv (l.Gave.length : Int) : Value) ∧ s = [], fun f v s => v = (iv (w64 ((B.length : Int) + (l.Gave.length : Int))) : Value) ∧ s = [], fun f v s => ∃ (Q : Option Addr) (P : Nat), v = (.slice Q [w64 ((B.length : Int) + (l.Gave.length : Int))].length P : Value) ∧ ownS Gx.encI [w64 ((B.length : Int) + (l.Gave.length : Int))] Q P s] : List ((Nat → Value) → Value → Seg → Prop)).getD i (fun _ _ _ => False)) (fun j f v => ∃ s, (fun i => ([fun f v s => v = (.slice H c.1.length F : Value) ∧ s = [], fun f v s => v = (.slice x t.length u : Value) ∧ s = [], fun f v s => v = (pB I 0 : Value) ∧ s = [], fun f v s => v = (iv l.Guest : Value) ∧ s = [], fun f v s => ∃ (O : Option Addr) (N : Nat), v = (.slice O B.length N : Value) ∧ ownS Gx.encI B O N s, fun f v s => v = (iv (B.length : Int) : Value) ∧ s = [], fun f v s => v = (pB I 2 : Value) ∧ s = [], fun f v s => v = (.slice ((D 0).1) l.Gave.length ((D 0).2) : Value) ∧ s = [], fun f v s => v = (iv (l.Gave.length : Int) : Value) ∧ s = [], fun f v s => v = (iv (w64 ((B.length : Int) + (l.Gave.length : Int))) : Value) ∧ s = [], fun f v s => ∃ (Q : Option Addr) (P : Nat), v = (.slice Q [w64 ((B.length : Int) + (l.Gave.length : Int))].length P : Value) ∧ ownS Gx.encI [w64 ((B.length : Int) + (l.Gave.length : Int))] Q P s] : List ((Nat → Value) → Value → Seg → Prop)).getD i (fun _ _ _ => False)) j f v s) [] [0, 4, 10] [4, 10] (fun _ _ _ s h => ⟨s, h⟩) (by kernel_rfl) (by kernel_rfl) (cq.preNil 11) (by kernel_rfl) (by kernel_rfl) (by kernel_rfl) (by kernel_rfl) (allOb_cons ?_ (allOb_cons ?_ (allOb_cons ?_ (allOb_cons ?_ (allOb_cons ?_ (allOb_cons ?_ (allOb_cons ?_ (allOb_cons ?_ (allOb_cons ?_ (allOb_cons ?_ (allOb_cons ?_ allOb_nil))))))))))) ?_)
   ·intro G K
    intro R ep cr
    exact wR 1 [(36, .slice H c.1.length F)] ep (W_nil (oE (.slice H c.1.length F) [] ⟨by kernel_rfl, rfl⟩ cr))
   ·intro G K
    intro R er cs
    exact wR 1 [(37, .slice x t.length u)] er (W_nil (oE (.slice x t.length u) [] ⟨by kernel_rfl, rfl⟩ cs))
   ·intro G K
    intro R es ct
    exact wR 1 [(38, pB I 0)] es (W_nil (oE (pB I 0) [] ⟨by kernel_rfl, rfl⟩ ct))
   ·intro G K
    intro v2_ hb2_
    obtain ⟨rfl, _⟩ := hb2_
    intro R et bm
    exact wV (iv l.Guest) et (eL false 1 0 (bm.blk 3 rfl)) (W_nil (oE (iv l.Guest) [] ⟨by kernel_rfl, rfl⟩ bm))
   ·intro G K
    intro v1_ hb1_
    obtain ⟨rfl, _⟩ := hb1_
    intro v3_ hb3_
    obtain ⟨rfl, _⟩ := hb3_
    intro R eu bn
    refine wC 66 #[.slice x t.length u, iv l.Guest] ((c_i_framesOf eu t x u (bt.mem0 bn) l.Guest d0).mono ?_)
    rintro e_ fk ⟨O, N, ej, rfl, bz, ci⟩
    refine ⟨_, rfl, ?_⟩
    exact W_nil (oE (.slice O B.length N) ej ⟨O, N, rfl, bz⟩ (Mem.callMid bn ci))
   ·intro G K
    intro v4_ hb4_
    obtain ⟨_, O, N, rfl, _⟩ := hb4_
    intro R ev cu
    exact wR 1 [(41, iv (B.length : Int))] ev (W_nil (oE (iv (B.length : Int)) [] ⟨by kernel_rfl, rfl⟩ cu))
   ·intro G K
    intro R ew cv
    exact wR 1 [(42, pB I 2)] ew (W_nil (oE (pB I 2) [] ⟨by kernel_rfl, rfl⟩ cv))
   ·intro G K
    intro v6_ hb6_
    obtain ⟨rfl, _⟩ := hb6_
    intro R ex bo
    exact wV (.slice ((D 0).1) l.Gave.length ((D 0).2)) ex (eL false 1 2 (bo.blk 3 rfl)) (W_nil (oE (.slice ((D 0).1) l.Gave.length ((D 0).2)) [] ⟨by kernel_rfl, rfl⟩ bo))
   ·intro G K
    intro v7_ hb7_
    obtain ⟨rfl, _⟩ := hb7_
    intro R ey cw
    exact wR 1 [(44, iv (l.Gave.length : Int))] ey (W_nil (oE (iv (l.Gave.length : Int)) [] ⟨by kernel_rfl, rfl⟩ cw))
   ·intro G K
    intro v5_ hb5_
    obtain ⟨rfl, _⟩ := hb5_
    intro v8_ hb8_
    obtain ⟨rfl, _⟩ := hb8_
    intro R ez cx
    exact wR 1 [(45, iv (w64 ((B.length : Int) + (l.Gave.length : Int))))] ez (W_nil (oE (iv (w64 ((B.length : Int) + (l.Gave.length : Int)))) [] ⟨by kernel_rfl, rfl⟩ cx))
   ·intro G K
    intro v9_ hb9_
    obtain ⟨rfl, _⟩ := hb9_
    intro R fl cy
    refine wL (E := Gx.encI) [w64 ((B.length : Int) + (l.Gave.length : Int))] 1 [iv (w64 ((B.length : Int) + (l.Gave.length : Int)))] 3 cy ?_
    intro Q P ek fm bd cz
    exact W_nil (oE (.slice Q [w64 ((B.length : Int) + (l.Gave.length : Int))].length P) ek ⟨Q, P, rfl, bd⟩ (Mem.mid cz))
   intro G K
   intro v0_ hb0_
   obtain ⟨rfl, _⟩ := hb0_
   intro v4_ hb4_
   obtain ⟨O, N, rfl, bz⟩ := hb4_
   intro v10_ hb10_
   obtain ⟨Q, P, rfl, bd⟩ := hb10_
   intro e0 c0
   have bp : Mem [] w e0 [ae, bh, U, [(I, .cells ⟨[iv l.Guest, iv l.Goal, .slice ((D 0).1) l.Gave.length ((D 0).2)]⟩ 50 (0, 0))], (G 4), (G 10)] := c0
   obtain ⟨br, dc, hm⟩ := gx_bind hm
   refine wA 8 [iv 0] 0 bp bw (bd.rd bp 5 (by kernel_rfl)) dc ?_
   intro bg a0 el ce dq c1
   refine wR 1 [(0, .slice x t.length u), (2, iv k), (8, .slice d (c.2.2.set c.2.1.toNat (⟨A.Guest, 0, A.Gave⟩ : Balloon)).length g), (9, .slice bg br.length a0), (25, .slice y n.length z), (26, iv (n.length : Int)), (27, iv c.2.1)] ce (W_nil (N_block (N_then (G_region (wR 2 [(0, .slice x t.length u), (2, iv k), (8, .slice d (c.2.2.set c.2.1.toNat (⟨A.Guest, 0, A.Gave⟩ : Balloon)).length g), (9, .slice bg br.length a0), (25, .slice y n.length z), (26, iv (n.length : Int)), (27, iv (w64 (c.2.1 + 1)))] ce (W_nil ?_))))))
   obtain rfl := Option.some.inj hm
   exact N_loop fun a ha => ⟨_, rfl, bg, a0, el, bh, U, dq, dp, c1.pk [0, 1, 2], ha.s⟩
  refine gF a8 (G_exit (N_then_exit (N_then_exit (N_block_eq ?_))))
  obtain rfl := Option.some.inj hm
  obtain rfl := dw _ rfl
  exact N_meet fun a ha => ⟨H, F, ae, am, U, bw, bx, ai.pk [0, 1, 2], ha.s⟩
 intro e9 e1 ⟨m, o, an, ao, ap, dl, dm, c2, c8⟩
 refine N_use c8 ?_
 have hm := dh
 refine N_then (G_seq (G_seq (G_region (wR 2 [(8, .slice d aa.2.length g), (9, .slice m aa.1.length o), (49, iv k), (50, iv 0)] e1 (W_nil (N_then ?_))))))
 obtain ⟨ec, d5, bv⟩ := gx_bind hm
 refine G_meet (fun a w' => ∃ (T : List Balloon × List Int), ∃ (aq : Seg), ∃ (ar : Seg), ∃ (cb : Seg), ownD deepBalloon T.1 d g aq ar ∧ ownS Gx.encI T.2 m o cb ∧ ec = .inl T ∧ Mem [] w w' [aq, ar] ∧ Sat Try.f31.ntmps [(8, .slice d T.1.length g)] a) ?_ ?_
 ·refine G_block (G_while (σ := Int × List Balloon × List Int) (ρ := (List Balloon × List Int) ⊕ ((List Balloon) × Bool)) (fun b a w' => ∃ (af : Seg), ∃ (V : Seg), ∃ (ag : Seg), ownD deepBalloon b.2.1 d g af V ∧ ownS Gx.encI b.2.2 m o ag ∧ Mem [] w w' [af, V, ag] ∧ Sat Try.f31.ntmps [(8, .slice d b.2.1.length g), (9, .slice m b.2.2.length o), (49, iv k), (50, iv b.1)] a) d5 (fun a ha => ⟨ao, ap, an, dm, dl, c2.pk [1, 2, 0], ha.s⟩) ?_)
  clear hm
  intro b fo hm b1 fa ah ⟨af, V, ag, b0, S, aj, c9⟩
  refine G_use c9 (G_seq (G_region (wR 1 [(8, .slice d b.2.1.length g), (9, .slice m b.2.2.length o), (49, iv k), (50, iv b.1), (51, .bool (decide (b.1 < k)))] ah (W_nil (N_then (G_seq ?_))))))
  rcases gx_bif hm with ⟨a9, hm⟩ | ⟨a9, hm⟩
  ·refine gT a9 (G_skip (N_then (G_seq (G_block (G_seq (G_seq ?_))))))
   obtain ⟨eb, ds, dg⟩ := gx_bind hm
   refine G_meet (fun a w' => Mem [] w w' [af, V, ag] ∧ Sat Try.f31.ntmps [(8, .slice d b.2.1.length g), (9, .slice m b.2.2.length o), (49, iv k), (50, iv b.1), (59, .bool eb)] a) ?_ ?_
   ·have hm := ds
    refine G_region (wR 4 [(8, .slice d b.2.1.length g), (9, .slice m b.2.2.length o), (49, iv k), (50, iv b.1), (55, .bool ((b.2.2.length : Int) == 0))] ah ?_)
    rcases gx_bif hm with ⟨ba, hm⟩ | ⟨ba, hm⟩
    ·refine wK 55 true ba (wR 4 [(8, .slice d b.2.1.length g), (9, .slice m b.2.2.length o), (49, iv k), (50, iv b.1), (59, .bool true)] ah (W_nil ?_))
     obtain rfl := Option.some.inj hm
     exact N_meet fun a ha => ⟨aj.pk [0, 1, 2], ha.s⟩
    refine wK 55 false ba (wR 1 [(8, .slice d b.2.1.length g), (9, .slice m b.2.2.length o), (49, iv k), (50, iv b.1), (55, .bool false), (56, .slice m b.2.2.length o)] ah ?_)
    obtain ⟨ef, d1, hm⟩ := gx_bind hm
    refine wC 67 #[.slice m b.2.2.length o] ((c_slices_Max_67 ah b.2.2 m o (S.rd aj 2 (by kernel_rfl)) d1).mono ?_)
    rintro e_ e2 ⟨rfl, cj⟩
    have c3 := aj.call0 cj
    refine ⟨_, rfl, ?_⟩
    refine wR 2 [(8, .slice d b.2.1.length g), (9, .slice m b.2.2.length o), (49, iv k), (50, iv b.1), (59, .bool (decide (ef < 2)))] e2 (W_nil ?_)
    obtain rfl := Option.some.inj hm
    exact N_meet fun a ha => ⟨c3.pk [0, 1, 2], ha.s⟩
   intro fb bk ⟨ay, da⟩
   refine N_use da ?_
   have hm := dg
   refine N_then ?_
   rcases gx_bif hm with ⟨bb, hm⟩ | ⟨bb, hm⟩
   ·refine gT bb (G_seq (G_region (wR 2 [(6, .slice none 0 0), (7, .bool false)] bk (W_nil (N_then (G_ret (N_then_ret (N_block_ret (N_then_ret (N_then_ret ?_))))))))))
    obtain rfl := Option.some.inj hm
    obtain rfl := b1 _ rfl
    have hm := bv; simp only [Sum.elim_inr] at hm
    refine N_block_ret (N_meet_ret (N_then_ret ?_))
    obtain rfl := Option.some.inj hm
    exact N_ret [.slice none 0 0, .bool false] (rC (rC RVs_nil)) (⟨none, 0, [], [], rfl, ownD_nil, ay.pk [100000, 100001]⟩)
   refine gF bb (G_skip (N_then (G_seq (G_region (wR 2 [(8, .slice d b.2.1.length g), (9, .slice m b.2.2.length o), (49, iv k), (50, iv b.1), (60, .slice m b.2.2.length o), (61, .slice m b.2.2.length o)] bk ?_)))))
   obtain ⟨b8, d2, hm⟩ := gx_bind hm
   refine wC 67 #[.slice m b.2.2.length o] ((c_slices_Max_67 bk b.2.2 m o (S.rd ay 2 (by kernel_rfl)) d2).mono ?_)
   rintro e_ e3 ⟨rfl, ck⟩
   have bq := ay.call0 ck
   refine ⟨_, rfl, ?_⟩
   obtain ⟨q, d3, hm⟩ := gx_bind hm
   refine wC 63 #[.slice m b.2.2.length o, iv b8] ((c_slices_Index_63 e3 b.2.2 m o (S.rd bq 2 (by kernel_rfl)) b8 d3).mono ?_)
   rintro e_ ab ⟨rfl, cl⟩
   have ak := bq.call0 cl
   refine ⟨_, rfl, ?_⟩
   refine wR 1 [(8, .slice d b.2.1.length g), (9, .slice m b.2.2.length o), (12, iv q), (49, iv k), (50, iv b.1)] ab (W_nil (N_then (G_seq (G_region (wR 2 [(8, .slice d b.2.1.length g), (9, .slice m b.2.2.length o), (12, iv q), (49, iv k), (50, iv b.1), (64, .slice m b.2.2.length o), (65, iv q)] ab ?_)))))
   obtain ⟨L, b3, hm⟩ := gx_bind hm
   refine wV (elemP m (q.toNat * 1)) ab (eI (S.rd ak 2 (by kernel_rfl)) rfl b3) (wV (iv L) ab (eE false 1 0 (q.toNat * 1) (S.rd ak 2 (by kernel_rfl)) b3) (wR 1 [(8, .slice d b.2.1.length g), (9, .slice m b.2.2.length o), (12, iv q), (49, iv k), (50, iv b.1), (64, .slice m b.2.2.length o), (65, iv q), (68, iv (w64 (L - 1)))] ab ?_))
   obtain ⟨e6, b4, hm⟩ := gx_bind hm
   refine wV (elemP m (q.toNat * 1)) ab (eI (S.rd ak 2 (by kernel_rfl)) rfl b4) (wE false 1 q.toNat 0 (q.toNat * 1) e6 (w64 (L - 1)) (iv (w64 (L - 1))) 2 ak S (gxIdx_spec b4).2 ?_)
   intro W em dt X
   refine wX 9 (.slice m b.2.2.length o) (.slice m (b.2.2.set q.toNat (w64 (L - 1))).length o) (by rw [@List.length_set _ b.2.2 q.toNat (w64 (L - 1))]) (wX 64 (.slice m b.2.2.length o) (.slice m (b.2.2.set q.toNat (w64 (L - 1))).length o) (by rw [@List.length_set _ b.2.2 q.toNat (w64 (L - 1))]) (W_nil (N_then (G_region (wR 2 [(8, .slice d b.2.1.length g), (9, .slice m (b.2.2.set q.toNat (w64 (L - 1))).length o), (49, iv k), (50, iv b.1), (70, .slice d b.2.1.length g), (71, iv q)] W ?_)))))
   obtain ⟨J, d8, hm⟩ := gx_bind hm
   obtain ⟨fr, Z, Y, de⟩ := id b0
   obtain ⟨fd, bc⟩ := gxIdx_fst Z d8
   refine wV (elemP d (q.toNat * 3)) W (eI (Y.rd X 0 (by kernel_rfl)) (len_fst Z) bc) (wV (elemP d (q.toNat * 3 + 1)) W (eF 1 (q.toNat * 3) 1 (Y.rd X 0 (by kernel_rfl)) bc) (wV (iv J.Goal) W (eE false 1 1 (q.toNat * 3 + 1) (Y.rd X 0 (by kernel_rfl)) bc) (wR 1 [(8, .slice d b.2.1.length g), (9, .slice m (b.2.2.set q.toNat (w64 (L - 1))).length o), (49, iv k), (50, iv b.1), (70, .slice d b.2.1.length g), (71, iv q), (75, iv (w64 (J.Goal + 1)))] W ?_)))
   obtain ⟨C, d9, hm⟩ := gx_bind hm
   obtain ⟨a4, ad⟩ := gxIdx_fst Z d9
   refine wV (elemP d (q.toNat * 3)) W (eI (Y.rd X 0 (by kernel_rfl)) (len_fst Z) ad) (wV (elemP d (q.toNat * 3 + 1)) W (eF 1 (q.toNat * 3) 1 (Y.rd X 0 (by kernel_rfl)) ad) (wE false 1 q.toNat 1 (q.toNat * 3 + 1) (C, a4) ((⟨C.Guest, w64 (J.Goal + 1), C.Gave⟩ : Balloon), a4) (iv (w64 (J.Goal + 1))) 0 X Y (gxIdx_spec ad).2 ?_))
   intro e4 cc du c4
   have dv : ownD deepBalloon (b.2.1.set q.toNat (⟨C.Guest, w64 (J.Goal + 1), C.Gave⟩ : Balloon)) d g cc V := ⟨_, set_fst Z q.toNat ((⟨C.Guest, w64 (J.Goal + 1), C.Gave⟩ : Balloon), a4), du, (by rw [flatMap_setSame (gxIdx_spec ad).2 (by kernel_rfl)]; exact de)⟩
   have fh := gxIdx_put (⟨C.Guest, w64 (J.Goal + 1), C.Gave⟩ : Balloon) (gxIdx_down Z ad)
   refine wX 8 (.slice d b.2.1.length g) (.slice d (b.2.1.set q.toNat (⟨C.Guest, w64 (J.Goal + 1), C.Gave⟩ : Balloon)).length g) (by rw [@List.length_set _ b.2.1 q.toNat (⟨C.Guest, w64 (J.Goal + 1), C.Gave⟩ : Balloon)]) (wX 70 (.slice d b.2.1.length g) (.slice d (b.2.1.set q.toNat (⟨C.Guest, w64 (J.Goal + 1), C.Gave⟩ : Balloon)).length g) (by rw [@List.length_set _ b.2.1 q.toNat (⟨C.Guest, w64 (J.Goal + 1), C.Gave⟩ : Balloon)]) (W_nil (N_block (N_then (G_region (wR 2 [(8, .slice d (b.2.1.set q.toNat (⟨C.Guest, w64 (J.Goal + 1), C.Gave⟩ : Balloon)).length g), (9, .slice m (b.2.2.set q.toNat (w64 (L - 1))).length o), (49, iv k), (50, iv (w64 (b.1 + 1)))] e4 (W_nil ?_)))))))
   obtain rfl := Option.some.inj hm
   exact N_loop fun a ha => ⟨_, rfl, cc, V, em, dv, dt, c4.pk [0, 1, 2], ha.s⟩
  refine gF a9 (G_exit (N_then_exit (N_then_exit (N_block_eq ?_))))
  obtain rfl := Option.some.inj hm
  obtain rfl := b1 _ rfl
  exact N_meet fun a ha => ⟨_, af, V, ag, b0, S, rfl, aj.pk [0, 1], ha.s⟩
 intro fc e5 ⟨T, aq, ar, cb, dr, ff, hout_, c5, db⟩
 refine N_use db ?_
 subst hout_
 have hm := bv; simp only [Sum.elim_inl] at hm
 refine N_then (G_seq (G_region (wR 3 [(6, .slice d T.1.length g), (7, .bool true)] e5 (W_nil (N_then (G_ret ?_))))))
 obtain rfl := Option.some.inj hm
 exact N_ret [.slice d T.1.length g, .bool true] (rC (rC RVs_nil)) (⟨d, g, aq, ar, rfl, dr, c5.pk [0, 1]⟩)
theorem c_l_FnExactShareGoals (w : World) (g : List Int) (j : Option Addr) (h : Nat) (Q : rdS Gx.encI w g j h) (c : List Balloon) (f : Option Addr) (d : Nat) (E : rdD deepBalloon w c f d) (l : Int) {r : Bool} (hm : M.l_FnExactShareGoals g c l = some r) :
  Calls Try.prog 7 #[.slice j g.length h, .slice f c.length d, iv l] w fun e w' => e = .returned (.bool r) ∧ Mem [] w w' [] := by
 unfold M.l_FnExactShareGoals at hm
 refine cE Try.func7 ?_
 have M0 := Mem.refl [] w
 refine G_seq (G_region (wR 1 [(0, .slice j g.length h), (1, .slice f c.length d), (2, iv l)] w (W_nil (N_then (G_seq (G_seq (G_region (wR 3 [(0, .slice j g.length h), (1, .slice f c.length d), (2, iv l), (21, .bool (decide ((g.length : Int) > 1048576)))] w (W_nil (N_then ?_))))))))))
 rcases gx_bif hm with ⟨au, hm⟩ | ⟨au, hm⟩
 ·refine gT au (G_seq (G_region (wR 1 [(6, .bool true)] w (W_nil (N_then (G_ret (N_then_ret ?_)))))))
  obtain rfl := Option.some.inj hm
  exact N_ret [.bool true] (rC RVs_nil) (⟨rfl, M0.pk []⟩)
 refine gF au (G_skip (N_then (G_seq (G_region (wR 1 [(0, .slice j g.length h), (1, .slice f c.length d), (2, iv l), (7, iv 1048576)] w (W_nil (N_then (G_seq (G_region (wR 2 [(0, .slice j g.length h), (1, .slice f c.length d), (2, iv l), (7, iv 1048576), (22, .slice f c.length d), (23, iv 1048576)] w ?_))))))))))
 obtain ⟨cc, dr, hm⟩ := gx_bind hm
 refine wC 13 #[.slice f c.length d, iv 1048576] ((c_l_szBalloonS w c f d (E.mem0 M0) 1048576 dr).mono ?_)
 rintro e_ F ⟨rfl, co⟩
 have ad := M0.call0 co
 refine ⟨_, rfl, ?_⟩
 refine wR 1 [(0, .slice j g.length h), (1, .slice f c.length d), (2, iv l), (7, iv cc)] F (W_nil (N_then (G_seq (G_seq (G_region (wR 2 [(0, .slice j g.length h), (1, .slice f c.length d), (2, iv l), (26, .bool (decide (cc < 0)))] F (W_nil (N_then ?_))))))))
 rcases gx_bif hm with ⟨av, hm⟩ | ⟨av, hm⟩
 ·refine gT av (G_seq (G_region (wR 1 [(6, .bool true)] F (W_nil (N_then (G_ret (N_then_ret ?_)))))))
  obtain rfl := Option.some.inj hm
  exact N_ret [.bool true] (rC RVs_nil) (⟨rfl, ad.pk []⟩)
 refine gF av (G_skip (N_then (G_seq (G_region (wR 1 [(0, .slice j g.length h), (1, .slice f c.length d), (2, iv l), (28, .slice j g.length h)] F ?_)))))
 obtain ⟨V, ds, hm⟩ := gx_bind hm
 refine wC 15 #[.slice j g.length h] ((c_l_toIntS F g j h (Q.mem0 ad) ds).mono ?_)
 rintro e_ ck ⟨S, N, ev, rfl, dg, cp⟩
 have bw := ad.call cp
 refine ⟨_, rfl, ?_⟩
 refine wR 1 [(0, .slice j g.length h), (1, .slice f c.length d), (2, iv l), (29, .slice S V.length N), (30, .slice f c.length d)] ck ?_
 obtain ⟨bh, dt, hm⟩ := gx_bind hm
 refine wC 16 #[.slice f c.length d] ((c_l_toBalloonS ck c f d (E.mem0 bw) dt).mono ?_)
 rintro e_ cl ⟨bf, aq, ew, ex, rfl, dh, cq⟩
 have ae := bw.call cq
 refine ⟨_, rfl, ?_⟩
 refine wR 1 [(0, .slice j g.length h), (1, .slice f c.length d), (2, iv l), (29, .slice S V.length N), (31, .slice bf bh.length aq), (32, iv l)] cl ?_
 obtain ⟨b, du, hm⟩ := gx_bind hm
 refine wC 30 #[.slice S V.length N, .slice bf bh.length aq, iv l] ((c_s_ShareGoals cl V S N (dg.rd ae 0 (by kernel_rfl)) bh bf aq (dh.rd ae 1 (by kernel_rfl) 2 (by kernel_rfl)) l du).mono ?_)
 rintro e_ bm ⟨o, n, cf, cg, rfl, bb, cr⟩
 have bx := ae.call cr
 refine ⟨_, rfl, ?_⟩
 refine wR 5 [(0, .slice j g.length h), (1, .slice f c.length d), (2, iv l), (8, .slice o b.1.length n), (9, .bool b.2)] bm (W_nil (N_then (G_seq (G_region (wR 1 [(0, .slice j g.length h), (1, .slice f c.length d), (2, iv l), (8, .slice o b.1.length n), (9, .bool b.2), (36, .slice j g.length h)] bm ?_)))))
 obtain ⟨y, dv, hm⟩ := gx_bind hm
 refine wC 15 #[.slice j g.length h] ((c_l_toIntS bm g j h (Q.mem0 bx) dv).mono ?_)
 rintro e_ bn ⟨v, t, ch, rfl, bc, cs⟩
 have bz := bx.call cs
 refine ⟨_, rfl, ?_⟩
 refine wR 1 [(0, .slice j g.length h), (1, .slice f c.length d), (2, iv l), (8, .slice o b.1.length n), (9, .bool b.2), (10, .slice v y.length t)] bn (W_nil (N_then (G_seq (G_region (wR 1 [(0, .slice j g.length h), (1, .slice f c.length d), (2, iv l), (8, .slice o b.1.length n), (9, .bool b.2), (10, .slice v y.length t), (38, .slice f c.length d)] bn ?_)))))
 obtain ⟨z, dw, hm⟩ := gx_bind hm
 refine wC 16 #[.slice f c.length d] ((c_l_toBalloonS bn c f d (E.mem0 bz) dw).mono ?_)
 rintro e_ bo ⟨x, u, ci, cj, rfl, bd, ct⟩
 have af := bz.call ct
 refine ⟨_, rfl, ?_⟩
 refine wR 1 [(0, .slice j g.length h), (1, .slice f c.length d), (2, iv l), (8, .slice o b.1.length n), (9, .bool b.2), (10, .slice v y.length t), (11, .slice x z.length u)] bo (W_nil (N_then (G_seq (G_region (wR 3 [(0, .slice j g.length h), (1, .slice f c.length d), (2, iv l), (8, .slice o b.1.length n), (9, .bool b.2), (10, .slice v y.length t), (11, .slice x z.length u), (41, .slice v y.length t), (42, .slice x z.length u), (43, iv l)] bo ?_)))))
 obtain ⟨m, dx, hm⟩ := gx_bind hm
 refine wC 31 #[.slice v y.length t, .slice x z.length u, iv l] ((c_i_ShareGoals bo y v t (bc.rd af 5 (by kernel_rfl)) z x u (bd.rd af 6 (by kernel_rfl) 7 (by kernel_rfl)) l dx).mono ?_)
 rintro e_ bp ⟨k, i, bk, bl, rfl, be, cu⟩
 have ag := af.call cu
 refine ⟨_, rfl, ?_⟩
 refine wR 5 [(0, .slice j g.length h), (1, .slice f c.length d), (2, iv l), (8, .slice o b.1.length n), (9, .bool b.2), (10, .slice v y.length t), (11, .slice x z.length u), (12, .slice k m.1.length i), (13, .bool m.2)] bp (W_nil (N_then (G_seq (G_seq ?_))))
 obtain ⟨ed, di, dd⟩ := gx_bind hm
 refine G_meet (fun a w' => Mem [] w w' [cf, cg, ch, ci, cj, bk, bl] ∧ Sat Try.f7.ntmps [(0, .slice j g.length h), (1, .slice f c.length d), (2, iv l), (8, .slice o b.1.length n), (9, .bool b.2), (10, .slice v y.length t), (11, .slice x z.length u), (12, .slice k m.1.length i), (13, .bool m.2), (55, .bool ed)] a) ?_ ?_
 ·have hm := di
  refine G_region (wR 2 [(0, .slice j g.length h), (1, .slice f c.length d), (2, iv l), (8, .slice o b.1.length n), (9, .bool b.2), (10, .slice v y.length t), (11, .slice x z.length u), (12, .slice k m.1.length i), (13, .bool m.2), (47, .slice k m.1.length i), (48, .slice o b.1.length n)] bp ?_)
  obtain ⟨eg, dy, hm⟩ := gx_bind hm
  refine wC 19 #[.slice k m.1.length i, .slice o b.1.length n] ((c_l_eqBalloonS bp m.1 k i (be.rd ag 8 (by kernel_rfl) 9 (by kernel_rfl)) b.1 o n (bb.rd ag 3 (by kernel_rfl) 4 (by kernel_rfl)) dy).mono ?_)
  rintro e_ bq ⟨rfl, cv⟩
  have b0 := ag.call0 cv
  refine ⟨_, rfl, ?_⟩
  refine wR 2 [(0, .slice j g.length h), (1, .slice f c.length d), (2, iv l), (8, .slice o b.1.length n), (9, .bool b.2), (10, .slice v y.length t), (11, .slice x z.length u), (12, .slice k m.1.length i), (13, .bool m.2), (51, .bool (!eg))] bq ?_
  rcases gx_bif hm with ⟨aw, hm⟩ | ⟨aw, hm⟩
  ·refine wK 51 true aw (wR 4 [(0, .slice j g.length h), (1, .slice f c.length d), (2, iv l), (8, .slice o b.1.length n), (9, .bool b.2), (10, .slice v y.length t), (11, .slice x z.length u), (12, .slice k m.1.length i), (13, .bool m.2), (55, .bool true)] bq (W_nil ?_))
   obtain rfl := Option.some.inj hm
   exact N_meet fun a ha => ⟨b0.pk [3, 4, 5, 6, 7, 8, 9], ha.s⟩
  refine wK 51 false aw (wR 4 [(0, .slice j g.length h), (1, .slice f c.length d), (2, iv l), (8, .slice o b.1.length n), (9, .bool b.2), (10, .slice v y.length t), (11, .slice x z.length u), (12, .slice k m.1.length i), (13, .bool m.2), (55, .bool (!(m.2 == b.2)))] bq (W_nil ?_))
  obtain rfl := Option.some.inj hm
  exact N_meet fun a ha => ⟨b0.pk [3, 4, 5, 6, 7, 8, 9], ha.s⟩
 intro ep br ⟨ah, da⟩
 refine N_use da ?_
 have hm := dd
 refine N_then ?_
 rcases gx_bif hm with ⟨ax, hm⟩ | ⟨ax, hm⟩
 ·refine gT ax (G_seq (G_region (wR 1 [(6, .bool false)] br (W_nil (N_then (G_ret (N_then_ret ?_)))))))
  obtain rfl := Option.some.inj hm
  exact N_ret [.bool false] (rC RVs_nil) (⟨rfl, ah.pk []⟩)
 refine gF ax (G_skip (N_then (G_seq (G_seq (G_region (wR 2 [(0, .slice j g.length h), (1, .slice f c.length d), (2, iv l), (8, .slice o b.1.length n), (9, .bool b.2), (10, .slice v y.length t), (11, .slice x z.length u), (12, .slice k m.1.length i), (13, .bool m.2), (56, .slice v y.length t), (57, .slice j g.length h)] br ?_))))))
 obtain ⟨cd, dz, hm⟩ := gx_bind hm
 refine wC 15 #[.slice j g.length h] ((c_l_toIntS br g j h (Q.mem0 ah) dz).mono ?_)
 rintro e_ en ⟨ca, b5, ey, rfl, dj, cw⟩
 have ai := ah.call cw
 refine ⟨_, rfl, ?_⟩
 obtain ⟨eh, d0, hm⟩ := gx_bind hm
 refine wC 18 #[.slice v y.length t, .slice ca cd.length b5] ((c_l_eqIntS en y v t (bc.rd ai 2 (by kernel_rfl)) cd ca b5 (dj.rd ai 7 (by kernel_rfl)) d0).mono ?_)
 rintro e_ Z ⟨rfl, cx⟩
 have aj := ai.call0 cx
 refine ⟨_, rfl, ?_⟩
 refine wR 1 [(0, .slice j g.length h), (1, .slice f c.length d), (2, iv l), (8, .slice o b.1.length n), (9, .bool b.2), (10, .slice v y.length t), (11, .slice x z.length u), (12, .slice k m.1.length i), (13, .bool m.2), (60, .bool (!eh))] Z (W_nil (N_then ?_))
 rcases gx_bif hm with ⟨ay, hm⟩ | ⟨ay, hm⟩
 ·refine gT ay (G_seq (G_region (wR 1 [(6, .bool false)] Z (W_nil (N_then (G_ret (N_then_ret ?_)))))))
  obtain rfl := Option.some.inj hm
  exact N_ret [.bool false] (rC RVs_nil) (⟨rfl, aj.pk []⟩)
 refine gF ay (G_skip (N_then (G_seq (G_seq (G_region (wR 2 [(0, .slice j g.length h), (1, .slice f c.length d), (2, iv l), (8, .slice o b.1.length n), (9, .bool b.2), (10, .slice v y.length t), (11, .slice x z.length u), (12, .slice k m.1.length i), (13, .bool m.2), (61, .slice x z.length u), (62, .slice f c.length d)] Z ?_))))))
 obtain ⟨ce, d1, hm⟩ := gx_bind hm
 refine wC 16 #[.slice f c.length d] ((c_l_toBalloonS Z c f d (E.mem0 aj) d1).mono ?_)
 rintro e_ eo ⟨cb, b6, ez, e0, rfl, dk, cy⟩
 have ak := aj.call cy
 refine ⟨_, rfl, ?_⟩
 obtain ⟨ei, d2, hm⟩ := gx_bind hm
 refine wC 19 #[.slice x z.length u, .slice cb ce.length b6] ((c_l_eqBalloonS eo z x u (bd.rd ak 3 (by kernel_rfl) 4 (by kernel_rfl)) ce cb b6 (dk.rd ak 8 (by kernel_rfl) 9 (by kernel_rfl)) d2).mono ?_)
 rintro e_ G ⟨rfl, cz⟩
 have I := ak.call0 cz
 refine ⟨_, rfl, ?_⟩
 refine wR 1 [(0, .slice j g.length h), (1, .slice f c.length d), (2, iv l), (8, .slice o b.1.length n), (9, .bool b.2), (10, .slice v y.length t), (11, .slice x z.length u), (12, .slice k m.1.length i), (13, .bool m.2), (65, .bool (!ei))] G (W_nil (N_then ?_))
 rcases gx_bif hm with ⟨az, hm⟩ | ⟨az, hm⟩
 ·refine gT az (G_seq (G_region (wR 1 [(6, .bool false)] G (W_nil (N_then (G_ret (N_then_ret ?_)))))))
  obtain rfl := Option.some.inj hm
  exact N_ret [.bool false] (rC RVs_nil) (⟨rfl, I.pk []⟩)
 refine gF az (G_skip (N_then (G_seq (G_region (wR 1 [(0, .slice j g.length h), (1, .slice f c.length d), (2, iv l), (8, .slice o b.1.length n), (9, .bool b.2), (10, .slice v y.length t), (11, .slice x z.length u), (12, .slice k m.1.length i), (13, .bool m.2), (14, iv 1)] G (W_nil (N_then (G_seq (G_region (wR 2 [(0, .slice j g.length h), (1, .slice f c.length d), (2, iv l), (8, .slice o b.1.length n), (9, .bool b.2), (11, .slice x z.length u), (12, .slice k m.1.length i), (13, .bool m.2), (14, iv 1), (66, .slice v y.length t), (67, iv 1)] G ?_))))))))))
 obtain ⟨C, d3, hm⟩ := gx_bind hm
 refine wC 24 #[.slice v y.length t, iv 1] ((c_l_markIntS G y v t ch bc 1 (I.hasPick [2]) (I.nodupPick [2] (by kernel_rfl)) d3).mono ?_)
 rintro e_ bs ⟨e1, rfl, et, b7, c0⟩
 have al := I.callF' [2] [0, 1, 3, 4, 5, 6, 7, 8, 9] (by kernel_rfl) c0
 refine ⟨_, rfl, ?_⟩
 refine wX 66 (.slice v y.length t) (.slice v C.2.length t) (by first | rw [b7] | rw [b7]) (wR 1 [(0, .slice j g.length h), (1, .slice f c.length d), (2, iv l), (8, .slice o b.1.length n), (9, .bool b.2), (11, .slice x z.length u), (12, .slice k m.1.length i), (13, .bool m.2), (14, iv C.1)] bs (W_nil (N_then (G_seq (G_region (wR 2 [(0, .slice j g.length h), (1, .slice f c.length d), (2, iv l), (8, .slice o b.1.length n), (9, .bool b.2), (12, .slice k m.1.length i), (13, .bool m.2), (14, iv C.1), (69, .slice x z.length u), (70, iv C.1)] bs ?_))))))
 obtain ⟨bi, d4, hm⟩ := gx_bind hm
 refine wC 25 #[.slice x z.length u, iv C.1] ((c_l_markBalloonS bs z x u ci cj bd C.1 (al.hasPick [2, 3]) (al.nodupPick [2, 3] (by kernel_rfl)) d4).mono ?_)
 rintro e_ H ⟨e2, e3, rfl, eu, b8, c1⟩
 have J := al.callF' [2, 3] [0, 1, 4, 5, 6, 7, 8, 9] (by kernel_rfl) c1
 refine ⟨_, rfl, ?_⟩
 refine wX 69 (.slice x z.length u) (.slice x bi.2.length u) (by first | rw [b8] | rw [b8]) (wR 1 [(0, .slice j g.length h), (1, .slice f c.length d), (2, iv l), (8, .slice o b.1.length n), (9, .bool b.2), (12, .slice k m.1.length i), (13, .bool m.2), (14, iv bi.1)] H (W_nil (N_then (G_seq (G_seq ?_)))))
 obtain ⟨ee, dl, de⟩ := gx_bind hm
 refine G_meet (fun a w' => Mem [] w w' [cf, cg, bk, bl] ∧ Sat Try.f7.ntmps [(0, .slice j g.length h), (1, .slice f c.length d), (2, iv l), (8, .slice o b.1.length n), (9, .bool b.2), (12, .slice k m.1.length i), (84, .bool ee)] a) ?_ ?_
 ·have hm := dl
  refine G_region (wR 3 [(0, .slice j g.length h), (1, .slice f c.length d), (2, iv l), (8, .slice o b.1.length n), (9, .bool b.2), (12, .slice k m.1.length i), (13, .bool m.2), (74, .bool (decide (bi.1 < 0)))] H ?_)
  rcases gx_bif hm with ⟨a0, hm⟩ | ⟨a0, hm⟩
  ·refine wK 74 true a0 (wR 10 [(0, .slice j g.length h), (1, .slice f c.length d), (2, iv l), (8, .slice o b.1.length n), (9, .bool b.2), (12, .slice k m.1.length i), (84, .bool true)] H (W_nil ?_))
   obtain rfl := Option.some.inj hm
   exact N_meet fun a ha => ⟨J.pk [0, 1, 2, 3], ha.s⟩
  refine wK 74 false a0 (wR 2 [(0, .slice j g.length h), (1, .slice f c.length d), (2, iv l), (8, .slice o b.1.length n), (9, .bool b.2), (12, .slice k m.1.length i), (13, .bool m.2), (74, .bool false), (75, .slice k m.1.length i), (76, .slice o b.1.length n)] H ?_)
  obtain ⟨ej, d5, hm⟩ := gx_bind hm
  refine wC 19 #[.slice k m.1.length i, .slice o b.1.length n] ((c_l_eqBalloonS H m.1 k i (be.rd J 2 (by kernel_rfl) 3 (by kernel_rfl)) b.1 o n (bb.rd J 0 (by kernel_rfl) 1 (by kernel_rfl)) d5).mono ?_)
  rintro e_ bt ⟨rfl, c2⟩
  have b1 := J.call0 c2
  refine ⟨_, rfl, ?_⟩
  refine wR 3 [(0, .slice j g.length h), (1, .slice f c.length d), (2, iv l), (8, .slice o b.1.length n), (9, .bool b.2), (12, .slice k m.1.length i), (13, .bool m.2), (80, .bool (!ej))] bt ?_
  rcases gx_bif hm with ⟨a3, hm⟩ | ⟨a3, hm⟩
  ·refine wK 80 true a3 (wR 4 [(0, .slice j g.length h), (1, .slice f c.length d), (2, iv l), (8, .slice o b.1.length n), (9, .bool b.2), (12, .slice k m.1.length i), (84, .bool true)] bt (W_nil ?_))
   obtain rfl := Option.some.inj hm
   exact N_meet fun a ha => ⟨b1.pk [0, 1, 2, 3], ha.s⟩
  refine wK 80 false a3 (wR 4 [(0, .slice j g.length h), (1, .slice f c.length d), (2, iv l), (8, .slice o b.1.length n), (9, .bool b.2), (12, .slice k m.1.length i), (84, .bool (!(m.2 == b.2)))] bt (W_nil ?_))
  obtain rfl := Option.some.inj hm
  exact N_meet fun a ha => ⟨b1.pk [0, 1, 2, 3], ha.s⟩
 intro er aa ⟨K, db⟩
 refine N_use db ?_
 have hm := de
 refine N_then ?_
 rcases gx_bif hm with ⟨a4, hm⟩ | ⟨a4, hm⟩
 ·refine gT a4 (G_seq (G_region (wR 1 [(6, .bool false)] aa (W_nil (N_then (G_ret (N_then_ret ?_)))))))
  obtain rfl := Option.some.inj hm
  exact N_ret [.bool false] (rC RVs_nil) (⟨rfl, K.pk []⟩)
 refine gF a4 (G_skip (N_then (G_seq (G_region (wR 1 [(0, .slice j g.length h), (1, .slice f c.length d), (2, iv l), (8, .slice o b.1.length n), (9, .bool b.2), (12, .slice k m.1.length i), (15, iv 1)] aa (W_nil (N_then (G_seq (G_region (wR 2 [(0, .slice j g.length h), (1, .slice f c.length d), (2, iv l), (8, .slice o b.1.length n), (9, .bool b.2), (12, .slice k m.1.length i), (15, iv 1), (85, .slice k m.1.length i), (86, iv 1)] aa ?_))))))))))
 obtain ⟨q, d6, hm⟩ := gx_bind hm
 refine wC 25 #[.slice k m.1.length i, iv 1] ((c_l_markBalloonS aa m.1 k i bk bl be 1 (K.hasPick [2, 3]) (K.nodupPick [2, 3] (by kernel_rfl)) d6).mono ?_)
 rintro e_ ab ⟨el, em, rfl, b9, R, c3⟩
 have b2 := K.callF' [2, 3] [0, 1] (by kernel_rfl) c3
 refine ⟨_, rfl, ?_⟩
 refine wX 12 (.slice k m.1.length i) (.slice k q.2.length i) (by first | rw [R] | rw [R]) (wX 85 (.slice k m.1.length i) (.slice k q.2.length i) (by first | rw [R] | rw [R]) (wR 1 [(0, .slice j g.length h), (1, .slice f c.length d), (2, iv l), (8, .slice o b.1.length n), (9, .bool b.2), (12, .slice k q.2.length i), (15, iv q.1)] ab (W_nil (N_then (G_seq (G_region (wR 1 [(0, .slice j g.length h), (1, .slice f c.length d), (2, iv l), (8, .slice o b.1.length n), (9, .bool b.2), (12, .slice k q.2.length i), (15, iv q.1), (16, iv 1)] ab (W_nil (N_then (G_seq (G_region (wR 2 [(0, .slice j g.length h), (1, .slice f c.length d), (2, iv l), (8, .slice o b.1.length n), (9, .bool b.2), (12, .slice k q.2.length i), (15, iv q.1), (16, iv 1), (88, .slice k q.2.length i), (89, iv 1)] ab ?_))))))))))))
 obtain ⟨W, d7, hm⟩ := gx_bind hm
 refine wC 26 #[.slice k q.2.length i, iv 1] ((c_l_heldBalloonS ab q.2 k i (b9.rd b2 2 (by kernel_rfl) 3 (by kernel_rfl)) 1 d7).mono ?_)
 rintro e_ B ⟨rfl, c4⟩
 have L := b2.call0 c4
 refine ⟨_, rfl, ?_⟩
 refine wR 1 [(0, .slice j g.length h), (1, .slice f c.length d), (2, iv l), (8, .slice o b.1.length n), (9, .bool b.2), (12, .slice k q.2.length i), (15, iv q.1), (16, iv W)] B (W_nil (N_then (G_seq (G_seq (G_region (wR 2 [(0, .slice j g.length h), (1, .slice f c.length d), (2, iv l), (8, .slice o b.1.length n), (9, .bool b.2), (12, .slice k q.2.length i), (15, iv q.1), (16, iv W), (92, .bool (decide (W < 0)))] B (W_nil (N_then ?_))))))))
 rcases gx_bif hm with ⟨a5, hm⟩ | ⟨a5, hm⟩
 ·refine gT a5 (G_seq (G_region (wR 1 [(6, .bool false)] B (W_nil (N_then (G_ret (N_then_ret ?_)))))))
  obtain rfl := Option.some.inj hm
  exact N_ret [.bool false] (rC RVs_nil) (⟨rfl, L.pk []⟩)
 refine gF a5 (G_skip (N_then (G_seq (G_seq (G_region (wR 3 [(0, .slice j g.length h), (1, .slice f c.length d), (2, iv l), (8, .slice o b.1.length n), (9, .bool b.2), (12, .slice k q.2.length i), (15, iv q.1), (95, .bool (W != q.1))] B (W_nil (N_then ?_))))))))
 rcases gx_bif hm with ⟨a6, hm⟩ | ⟨a6, hm⟩
 ·refine gT a6 (G_seq (G_region (wR 1 [(6, .bool false)] B (W_nil (N_then (G_ret (N_then_ret ?_)))))))
  obtain rfl := Option.some.inj hm
  exact N_ret [.bool false] (rC RVs_nil) (⟨rfl, L.pk []⟩)
 refine gF a6 (G_skip (N_then (G_seq (G_region (wR 1 [(1, .slice f c.length d), (2, iv l), (8, .slice o b.1.length n), (9, .bool b.2), (12, .slice k q.2.length i), (15, iv q.1), (97, .slice j g.length h)] B ?_)))))
 obtain ⟨X, d8, hm⟩ := gx_bind hm
 refine wC 15 #[.slice j g.length h] ((c_l_toIntS B g j h (Q.mem0 L) d8).mono ?_)
 rintro e_ cm ⟨T, O, e4, rfl, dm, c5⟩
 have b3 := L.call c5
 refine ⟨_, rfl, ?_⟩
 refine wR 1 [(2, iv l), (8, .slice o b.1.length n), (9, .bool b.2), (12, .slice k q.2.length i), (15, iv q.1), (98, .slice T X.length O), (99, .slice f c.length d)] cm ?_
 obtain ⟨bj, d9, hm⟩ := gx_bind hm
 refine wC 16 #[.slice f c.length d] ((c_l_toBalloonS cm c f d (E.mem0 b3) d9).mono ?_)
 rintro e_ cn ⟨bg, ar, e5, e6, rfl, dn, c6⟩
 have am := b3.call c6
 refine ⟨_, rfl, ?_⟩
 refine wR 1 [(8, .slice o b.1.length n), (9, .bool b.2), (12, .slice k q.2.length i), (15, iv q.1), (98, .slice T X.length O), (100, .slice bg bj.length ar), (101, iv l)] cn ?_
 obtain ⟨A, ea, hm⟩ := gx_bind hm
 refine wC 31 #[.slice T X.length O, .slice bg bj.length ar, iv l] ((c_i_ShareGoals cn X T O (dm.rd am 4 (by kernel_rfl)) bj bg ar (dn.rd am 5 (by kernel_rfl) 6 (by kernel_rfl)) l ea).mono ?_)
 rintro e_ bu ⟨U, P, e7, e8, rfl, dp, c7⟩
 have an := am.call c7
 refine ⟨_, rfl, ?_⟩
 refine wR 5 [(8, .slice o b.1.length n), (9, .bool b.2), (12, .slice k q.2.length i), (15, iv q.1), (17, .slice U A.1.length P), (18, .bool A.2)] bu (W_nil (N_then (G_seq (G_seq ?_))))
 obtain ⟨ef, dq, df⟩ := gx_bind hm
 refine G_meet (fun a w' => Mem [] w w' [el, em] ∧ Sat Try.f7.ntmps [(12, .slice k q.2.length i), (15, iv q.1), (113, .bool ef)] a) ?_ ?_
 ·have hm := dq
  refine G_region (wR 2 [(9, .bool b.2), (12, .slice k q.2.length i), (15, iv q.1), (18, .bool A.2), (105, .slice U A.1.length P), (106, .slice o b.1.length n)] bu ?_)
  obtain ⟨ek, eb, hm⟩ := gx_bind hm
  refine wC 19 #[.slice U A.1.length P, .slice o b.1.length n] ((c_l_eqBalloonS bu A.1 U P (dp.rd an 7 (by kernel_rfl) 8 (by kernel_rfl)) b.1 o n (bb.rd an 0 (by kernel_rfl) 1 (by kernel_rfl)) eb).mono ?_)
  rintro e_ bv ⟨rfl, c8⟩
  have b4 := an.call0 c8
  refine ⟨_, rfl, ?_⟩
  refine wR 2 [(9, .bool b.2), (12, .slice k q.2.length i), (15, iv q.1), (18, .bool A.2), (109, .bool (!ek))] bv ?_
  rcases gx_bif hm with ⟨a7, hm⟩ | ⟨a7, hm⟩
  ·refine wK 109 true a7 (wR 4 [(12, .slice k q.2.length i), (15, iv q.1), (113, .bool true)] bv (W_nil ?_))
   obtain rfl := Option.some.inj hm
   exact N_meet fun a ha => ⟨b4.pk [2, 3], ha.s⟩
  refine wK 109 false a7 (wR 4 [(12, .slice k q.2.length i), (15, iv q.1), (113, .bool (!(A.2 == b.2)))] bv (W_nil ?_))
  obtain rfl := Option.some.inj hm
  exact N_meet fun a ha => ⟨b4.pk [2, 3], ha.s⟩
 intro es ac ⟨ao, dc⟩
 refine N_use dc ?_
 have hm := df
 refine N_then ?_
 rcases gx_bif hm with ⟨a8, hm⟩ | ⟨a8, hm⟩
 ·refine gT a8 (G_seq (G_region (wR 1 [(6, .bool false)] ac (W_nil (N_then (G_ret (N_then_ret ?_)))))))
  obtain rfl := Option.some.inj hm
  exact N_ret [.bool false] (rC RVs_nil) (⟨rfl, ao.pk []⟩)
 refine gF a8 (G_skip (N_then (G_seq (G_region (wR 1 [(12, .slice k q.2.length i), (15, iv q.1), (16, iv 1)] ac (W_nil (N_then (G_seq (G_region (wR 2 [(15, iv q.1), (16, iv 1), (114, .slice k q.2.length i), (115, iv 1)] ac ?_))))))))))
 obtain ⟨Y, ec, hm⟩ := gx_bind hm
 refine wC 26 #[.slice k q.2.length i, iv 1] ((c_l_heldBalloonS ac q.2 k i (b9.rd ao 0 (by kernel_rfl) 1 (by kernel_rfl)) 1 ec).mono ?_)
 rintro e_ D ⟨rfl, c9⟩
 have ap := ao.call0 c9
 refine ⟨_, rfl, ?_⟩
 refine wR 1 [(15, iv q.1), (16, iv Y)] D (W_nil (N_then (G_seq (G_seq (G_region (wR 2 [(15, iv q.1), (16, iv Y), (118, .bool (decide (Y < 0)))] D (W_nil (N_then ?_))))))))
 rcases gx_bif hm with ⟨a9, hm⟩ | ⟨a9, hm⟩
 ·refine gT a9 (G_seq (G_region (wR 1 [(6, .bool false)] D (W_nil (N_then (G_ret (N_then_ret ?_)))))))
  obtain rfl := Option.some.inj hm
  exact N_ret [.bool false] (rC RVs_nil) (⟨rfl, ap.pk []⟩)
 refine gF a9 (G_skip (N_then (G_seq (G_seq (G_region (wR 3 [(121, .bool (Y != q.1))] D (W_nil (N_then ?_))))))))
 rcases gx_bif hm with ⟨ba, hm⟩ | ⟨ba, hm⟩
 ·refine gT ba (G_seq (G_region (wR 1 [(6, .bool false)] D (W_nil (N_then (G_ret (N_then_ret ?_)))))))
  obtain rfl := Option.some.inj hm
  exact N_ret [.bool false] (rC RVs_nil) (⟨rfl, ap.pk []⟩)
 refine gF ba (G_skip (N_then (G_seq (G_region (wR 1 [(6, .bool true)] D (W_nil (N_then (G_ret ?_))))))))
 obtain rfl := Option.some.inj hm
 exact N_ret [.bool true] (rC RVs_nil) (⟨rfl, ap.pk []⟩)
end Go.Proofs.Ytlfligjpmodefaa
