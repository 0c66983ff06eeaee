/- The walks, printed by program: whenever the model gives r, the call returns r. Part 2. -/
import Derived.Test.YtlfligjpmodefaaM
import Derived.Test.YtlfligjpmodefaaGxZ
import Derived.Test.YtlfligjpmodefaaProg
import Derived.Test.YtlfligjpmodefaaSh
import Derived.Test.YtlfligjpmodefaaC1
set_option linter.unusedVariables false
set_option maxRecDepth 100000
set_option maxHeartbeats 4000000
namespace Go.Proofs.Ytlfligjpmodefaa
open Go.Gx
theorem c_l_FnExactGivenFrames (w : World) (f : List Int) (h : Option Addr) (g : Nat) (H : rdS Gx.encI w f h g) (b : List Balloon) (d : Option Addr) (c : Nat) (v : rdD deepBalloon w b d c) {r : Bool} (hm : M.l_FnExactGivenFrames f b = some r) :
  Calls Try.prog 4 #[.slice h f.length g, .slice d b.length c] w fun e w' => e = .returned (.bool r) ∧ Mem [] w w' [] := by
 unfold M.l_FnExactGivenFrames at hm
 refine cE Try.func4 ?_
 have M0 := Mem.refl [] w
 refine G_seq (G_region (wR 1 [(0, .slice h f.length g), (1, .slice d b.length c)] w (W_nil (N_then (G_seq (G_seq (G_region (wR 3 [(0, .slice h f.length g), (1, .slice d b.length c), (16, .bool (decide ((f.length : Int) > 1048576)))] w (W_nil (N_then ?_))))))))))
 rcases gx_bif hm with ⟨I, hm⟩ | ⟨I, hm⟩
 ·refine gT I (G_seq (G_region (wR 1 [(4, .bool true)] w (W_nil (N_then (G_ret (N_then_ret ?_)))))))
  obtain rfl := Option.some.inj hm
  exact N_ret [.bool true] (rC RVs_nil) (⟨rfl, M0.pk []⟩)
 refine gF I (G_skip (N_then (G_seq (G_region (wR 1 [(0, .slice h f.length g), (1, .slice d b.length c), (5, iv 1048576)] w (W_nil (N_then (G_seq (G_region (wR 2 [(0, .slice h f.length g), (1, .slice d b.length c), (5, iv 1048576), (17, .slice d b.length c), (18, iv 1048576)] w ?_))))))))))
 obtain ⟨aj, ba, hm⟩ := gx_bind hm
 refine wC 13 #[.slice d b.length c, iv 1048576] ((c_l_szBalloonS w b d c (v.mem0 M0) 1048576 ba).mono ?_)
 rintro e_ u ⟨rfl, ao⟩
 have y := M0.call0 ao
 refine ⟨_, rfl, ?_⟩
 refine wR 1 [(0, .slice h f.length g), (1, .slice d b.length c), (5, iv aj)] u (W_nil (N_then (G_seq (G_seq (G_region (wR 2 [(0, .slice h f.length g), (1, .slice d b.length c), (21, .bool (decide (aj < 0)))] u (W_nil (N_then ?_))))))))
 rcases gx_bif hm with ⟨J, hm⟩ | ⟨J, hm⟩
 ·refine gT J (G_seq (G_region (wR 1 [(4, .bool true)] u (W_nil (N_then (G_ret (N_then_ret ?_)))))))
  obtain rfl := Option.some.inj hm
  exact N_ret [.bool true] (rC RVs_nil) (⟨rfl, y.pk []⟩)
 refine gF J (G_skip (N_then (G_seq (G_region (wR 1 [(0, .slice h f.length g), (1, .slice d b.length c), (23, .slice h f.length g)] u ?_)))))
 obtain ⟨R, bb, hm⟩ := gx_bind hm
 refine wC 15 #[.slice h f.length g] ((c_l_toIntS u f h g (H.mem0 y) bb).mono ?_)
 rintro e_ an ⟨Q, G, bv, rfl, a5, ap⟩
 have X := y.call ap
 refine ⟨_, rfl, ?_⟩
 refine wR 1 [(0, .slice h f.length g), (1, .slice d b.length c), (24, .slice Q R.length G), (25, .slice d b.length c)] an ?_
 obtain ⟨ak, bc, hm⟩ := gx_bind hm
 refine wC 16 #[.slice d b.length c] ((c_l_toBalloonS an b d c (v.mem0 X) bc).mono ?_)
 rintro e_ br ⟨ag, ab, bw, bx, rfl, a6, aq⟩
 have z := X.call aq
 refine ⟨_, rfl, ?_⟩
 obtain ⟨i, bd, hm⟩ := gx_bind hm
 refine wC 20 #[.slice Q R.length G, .slice ag ak.length ab] ((c_s_GivenFrames br R Q G (a5.rd z 0 (by kernel_rfl)) ak ag ab (a6.rd z 1 (by kernel_rfl) 2 (by kernel_rfl)) bd).mono ?_)
 rintro e_ S ⟨rfl, ar⟩
 have Y := z.call0 ar
 refine ⟨_, rfl, ?_⟩
 refine wR 7 [(0, .slice h f.length g), (1, .slice d b.length c), (6, iv i.1), (7, iv i.2.1), (8, .bool i.2.2)] S (W_nil (N_then (G_seq (G_region (wR 1 [(0, .slice h f.length g), (1, .slice d b.length c), (6, iv i.1), (7, iv i.2.1), (8, .bool i.2.2), (31, .slice h f.length g)] S ?_)))))
 obtain ⟨n, be, hm⟩ := gx_bind hm
 refine wC 15 #[.slice h f.length g] ((c_l_toIntS S f h g (H.mem0 Y) be).mono ?_)
 rintro e_ T ⟨l, j, bo, rfl, ae, au⟩
 have Z := Y.call au
 refine ⟨_, rfl, ?_⟩
 refine wR 1 [(0, .slice h f.length g), (1, .slice d b.length c), (6, iv i.1), (7, iv i.2.1), (8, .bool i.2.2), (9, .slice l n.length j)] T (W_nil (N_then (G_seq (G_region (wR 1 [(0, .slice h f.length g), (1, .slice d b.length c), (6, iv i.1), (7, iv i.2.1), (8, .bool i.2.2), (9, .slice l n.length j), (33, .slice d b.length c)] T ?_)))))
 obtain ⟨o, bf, hm⟩ := gx_bind hm
 refine wC 16 #[.slice d b.length c] ((c_l_toBalloonS T b d c (v.mem0 Z) bf).mono ?_)
 rintro e_ U ⟨m, k, bp, bq, rfl, af, av⟩
 have A := Z.call av
 refine ⟨_, rfl, ?_⟩
 refine wR 1 [(0, .slice h f.length g), (1, .slice d b.length c), (6, iv i.1), (7, iv i.2.1), (8, .bool i.2.2), (9, .slice l n.length j), (10, .slice m o.length k)] U (W_nil (N_then (G_seq (G_region (wR 2 [(0, .slice h f.length g), (1, .slice d b.length c), (6, iv i.1), (7, iv i.2.1), (8, .bool i.2.2), (9, .slice l n.length j), (10, .slice m o.length k), (36, .slice l n.length j), (37, .slice m o.length k)] U ?_)))))
 obtain ⟨q, bg, hm⟩ := gx_bind hm
 refine wC 21 #[.slice l n.length j, .slice m o.length k] ((c_i_GivenFrames U n l j (ae.rd A 3 (by kernel_rfl)) o m k (af.rd A 4 (by kernel_rfl) 5 (by kernel_rfl)) bg).mono ?_)
 rintro e_ t ⟨rfl, aw⟩
 have B := A.call0 aw
 refine ⟨_, rfl, ?_⟩
 refine wR 7 [(0, .slice h f.length g), (1, .slice d b.length c), (6, iv i.1), (7, iv i.2.1), (8, .bool i.2.2), (9, .slice l n.length j), (10, .slice m o.length k), (11, iv q.1), (12, iv q.2.1), (13, .bool q.2.2)] t (W_nil (N_then (G_seq (G_seq ?_))))
 obtain ⟨bl, a7, a4⟩ := gx_bind hm
 refine G_meet (fun a w' => Mem [] w w' [bo, bp, bq] ∧ Sat Try.f4.ntmps [(0, .slice h f.length g), (1, .slice d b.length c), (9, .slice l n.length j), (10, .slice m o.length k), (54, .bool bl)] a) ?_ ?_
 ·have hm := a7
  refine G_region (wR 4 [(0, .slice h f.length g), (1, .slice d b.length c), (7, iv i.2.1), (8, .bool i.2.2), (9, .slice l n.length j), (10, .slice m o.length k), (12, iv q.2.1), (13, .bool q.2.2), (45, .bool (q.1 != i.1))] t ?_)
  rcases gx_bif hm with ⟨K, hm⟩ | ⟨K, hm⟩
  ·refine wK 45 true K (wR 9 [(0, .slice h f.length g), (1, .slice d b.length c), (9, .slice l n.length j), (10, .slice m o.length k), (54, .bool true)] t (W_nil ?_))
   obtain rfl := Option.some.inj hm
   exact N_meet fun a ha => ⟨B.pk [3, 4, 5], ha.s⟩
  refine wK 45 false K (wR 5 [(0, .slice h f.length g), (1, .slice d b.length c), (8, .bool i.2.2), (9, .slice l n.length j), (10, .slice m o.length k), (13, .bool q.2.2), (50, .bool (q.2.1 != i.2.1))] t ?_)
  rcases gx_bif hm with ⟨L, hm⟩ | ⟨L, hm⟩
  ·refine wK 50 true L (wR 4 [(0, .slice h f.length g), (1, .slice d b.length c), (9, .slice l n.length j), (10, .slice m o.length k), (54, .bool true)] t (W_nil ?_))
   obtain rfl := Option.some.inj hm
   exact N_meet fun a ha => ⟨B.pk [3, 4, 5], ha.s⟩
  refine wK 50 false L (wR 4 [(0, .slice h f.length g), (1, .slice d b.length c), (9, .slice l n.length j), (10, .slice m o.length k), (54, .bool (!(q.2.2 == i.2.2)))] t (W_nil ?_))
  obtain rfl := Option.some.inj hm
  exact N_meet fun a ha => ⟨B.pk [3, 4, 5], ha.s⟩
 intro bu V ⟨C, a3⟩
 refine N_use a3 ?_
 have hm := a4
 refine N_then ?_
 rcases gx_bif hm with ⟨N, hm⟩ | ⟨N, hm⟩
 ·refine gT N (G_seq (G_region (wR 1 [(4, .bool false)] V (W_nil (N_then (G_ret (N_then_ret ?_)))))))
  obtain rfl := Option.some.inj hm
  exact N_ret [.bool false] (rC RVs_nil) (⟨rfl, C.pk []⟩)
 refine gF N (G_skip (N_then (G_seq (G_seq (G_region (wR 2 [(1, .slice d b.length c), (10, .slice m o.length k), (55, .slice l n.length j), (56, .slice h f.length g)] V ?_))))))
 obtain ⟨al, bh, hm⟩ := gx_bind hm
 refine wC 15 #[.slice h f.length g] ((c_l_toIntS V f h g (H.mem0 C) bh).mono ?_)
 rintro e_ bs ⟨ah, ac, bz, rfl, a8, ax⟩
 have D := C.call ax
 refine ⟨_, rfl, ?_⟩
 obtain ⟨bm, bi, hm⟩ := gx_bind hm
 refine wC 18 #[.slice l n.length j, .slice ah al.length ac] ((c_l_eqIntS bs n l j (ae.rd D 0 (by kernel_rfl)) al ah ac (a8.rd D 3 (by kernel_rfl)) bi).mono ?_)
 rintro e_ x ⟨rfl, ay⟩
 have E := D.call0 ay
 refine ⟨_, rfl, ?_⟩
 refine wR 1 [(1, .slice d b.length c), (10, .slice m o.length k), (59, .bool (!bm))] x (W_nil (N_then ?_))
 rcases gx_bif hm with ⟨O, hm⟩ | ⟨O, hm⟩
 ·refine gT O (G_seq (G_region (wR 1 [(4, .bool false)] x (W_nil (N_then (G_ret (N_then_ret ?_)))))))
  obtain rfl := Option.some.inj hm
  exact N_ret [.bool false] (rC RVs_nil) (⟨rfl, E.pk []⟩)
 refine gF O (G_skip (N_then (G_seq (G_seq (G_region (wR 2 [(60, .slice m o.length k), (61, .slice d b.length c)] x ?_))))))
 obtain ⟨am, bj, hm⟩ := gx_bind hm
 refine wC 16 #[.slice d b.length c] ((c_l_toBalloonS x b d c (v.mem0 E) bj).mono ?_)
 rintro e_ bt ⟨ai, ad, b0, b1, rfl, a9, az⟩
 have F := E.call az
 refine ⟨_, rfl, ?_⟩
 obtain ⟨bn, bk, hm⟩ := gx_bind hm
 refine wC 19 #[.slice m o.length k, .slice ai am.length ad] ((c_l_eqBalloonS bt o m k (af.rd F 1 (by kernel_rfl) 2 (by kernel_rfl)) am ai ad (a9.rd F 4 (by kernel_rfl) 5 (by kernel_rfl)) bk).mono ?_)
 rintro e_ W ⟨rfl, a0⟩
 have aa := F.call0 a0
 refine ⟨_, rfl, ?_⟩
 refine wR 1 [(64, .bool (!bn))] W (W_nil (N_then ?_))
 rcases gx_bif hm with ⟨P, hm⟩ | ⟨P, hm⟩
 ·refine gT P (G_seq (G_region (wR 1 [(4, .bool false)] W (W_nil (N_then (G_ret (N_then_ret ?_)))))))
  obtain rfl := Option.some.inj hm
  exact N_ret [.bool false] (rC RVs_nil) (⟨rfl, aa.pk []⟩)
 refine gF P (G_skip (N_then (G_seq (G_region (wR 1 [(4, .bool true)] W (W_nil (N_then (G_ret ?_))))))))
 obtain rfl := Option.some.inj hm
 exact N_ret [.bool true] (rC RVs_nil) (⟨rfl, aa.pk []⟩)
theorem c_s_l18Find (w : World) (d : List Balloon) (c : Option Addr) (f : Nat) (x : rdD deepBalloon w d c f) (g : Int) {r : Int} (hm : M.s_l18Find d g = some r) :
  Calls Try.prog 56 #[.slice c d.length f, iv g] w fun e w' => e = .returned (iv r) ∧ Mem [] w w' [] := by
 unfold M.s_l18Find at hm
 refine cE Try.func56 ?_
 have M0 := Mem.refl [] w
 refine G_seq (G_region (wR 1 [(0, .slice c d.length f), (1, iv g)] w (W_nil (N_then (G_seq (G_seq (G_region (wR 1 [(0, .slice c d.length f), (1, iv g), (5, iv 0)] w (W_nil (N_then ?_))))))))))
 obtain ⟨C, A, n⟩ := gx_bind hm
 refine G_meet (fun a w' => ∃ (t : Unit), C = .inl t ∧ Mem [] w w' [] ∧ Sat Try.f56.ntmps [] a) ?_ ?_
 ·refine G_block (G_while (σ := Int) (ρ := (Unit) ⊕ (Int)) (fun b a w' => Mem [] w w' [] ∧ Sat Try.f56.ntmps [(0, .slice c d.length f), (1, iv g), (5, iv b)] a) A (fun a ha => ⟨M0.pk [], ha.s⟩) ?_)
  clear hm
  intro b I hm o E h ⟨i, y⟩
  refine G_use y (G_seq (G_seq (G_region (wR 4 [(0, .slice c d.length f), (1, iv g), (5, iv b), (9, .bool (decide (b < (d.length : Int))))] h (W_nil (N_then ?_))))))
  rcases gx_bif hm with ⟨j, hm⟩ | ⟨j, hm⟩
  ·refine gT j (G_skip (N_then (G_seq (G_block (G_seq (G_region (wR 2 [(0, .slice c d.length f), (1, iv g), (5, iv b), (12, .slice c d.length f), (13, iv b)] h ?_)))))))
   obtain ⟨u, B, hm⟩ := gx_bind hm
   obtain ⟨J, q, m, H⟩ := id x
   obtain ⟨G, l⟩ := gxIdx_fst q B
   refine wV (elemP c (b.toNat * 3)) h (eI (m.mem0 i) (len_fst q) l) (wV (elemP c (b.toNat * 3 + 0)) h (eF 0 (b.toNat * 3) 0 (m.mem0 i) l) (wV (iv u.Guest) h (eE false 1 0 (b.toNat * 3 + 0) (m.mem0 i) l) (wR 2 [(0, .slice c d.length f), (1, iv g), (5, iv b), (18, .bool (u.Guest == g))] h (W_nil (N_then ?_)))))
   rcases gx_bif hm with ⟨k, hm⟩ | ⟨k, hm⟩
   ·refine gT k (G_seq (G_region (wR 2 [(4, iv b)] h (W_nil (N_then (G_ret (N_block_ret (N_then_ret (N_then_ret ?_)))))))))
    obtain rfl := Option.some.inj hm
    obtain rfl := o _ rfl
    have hm := n; simp only [Sum.elim_inr] at hm
    refine N_block_ret (N_meet_ret (N_then_ret ?_))
    obtain rfl := Option.some.inj hm
    exact N_ret [iv b] (rC RVs_nil) (⟨rfl, i.pk []⟩)
   refine gF k (G_skip (N_block (N_then (G_region (wR 3 [(0, .slice c d.length f), (1, iv g), (5, iv (w64 (b + 1)))] h (W_nil ?_))))))
   obtain rfl := Option.some.inj hm
   exact N_loop fun a ha => ⟨_, rfl, i.pk [], ha.s⟩
  refine gF j (G_exit (N_then_exit (N_then_exit (N_block_eq ?_))))
  obtain rfl := Option.some.inj hm
  obtain rfl := o _ rfl
  exact N_meet fun a ha => ⟨_, rfl, i.pk [], ha.s⟩
 intro F D ⟨t, hout_, v, z⟩
 refine N_use z ?_
 subst hout_
 have hm := n; simp only [Sum.elim_inl] at hm
 refine N_then (G_seq (G_region (wR 1 [(4, iv (-1))] D (W_nil (N_then (G_ret ?_))))))
 obtain rfl := Option.some.inj hm
 exact N_ret [iv (-1)] (rC RVs_nil) (⟨rfl, v.pk []⟩)
theorem c_s_l1Own (w : World) (a : List Int) (c : Option Addr) (b : Nat) (n : rdS Gx.encI w a c b) {r : (List Int)} (hm : M.s_l1Own a = some r) :
  Calls Try.prog 71 #[.slice c a.length b] w fun e w' => ∃ (j : Option Addr) (i : Nat) (k : Seg), e = .returned (.slice j r.length i) ∧ ownS Gx.encI r j i k ∧ Mem [] w w' [k] := by
 unfold M.s_l1Own at hm
 refine cE Try.func71 ?_
 have M0 := Mem.refl [] w
 refine G_seq (G_region (wR 1 [(0, .slice c a.length b)] w (W_nil (N_then (G_seq (G_region (wL (E := Gx.encI) ([] : List Int) 0 [] 3 M0 ?_)))))))
 intro u m z x q g
 refine wR 1 [(3, .slice u ([] : List Int).length m), (4, .slice c a.length b)] x ?_
 obtain ⟨h, o, hm⟩ := gx_bind hm
 refine wA 8 [iv 0] 0 g q (n.mem0 g) o ?_
 intro f d v y t l
 refine wR 1 [(2, .slice f h.length d)] y (W_nil (N_then (G_ret ?_)))
 obtain rfl := Option.some.inj hm
 exact N_ret [.slice f h.length d] (rC RVs_nil) (⟨f, d, v, rfl, t, l.pk [0]⟩)
theorem c_s_l18With (w : World) (d : List Balloon) (c : Option Addr) (g : Nat) (b5 : rdD deepBalloon w d c g) (A : Int) (n : Int) (o : List Int) (u : Option Addr) (q : Nat) (b6 : rdS Gx.encI w o u q) {r : (List Balloon)} (hm : M.s_l18With d A n o = some r) :
  Calls Try.prog 58 #[.slice c d.length g, iv A, iv n, .slice u o.length q] w fun e w' => ∃ (a9 : Option Addr) (a7 : Nat) (ba : Seg) (bb : Seg), e = .returned (.slice a9 r.length a7) ∧ ownD deepBalloon r a9 a7 ba bb ∧ Mem [] w w' [ba, bb] := by
 unfold M.s_l18With at hm
 refine cE Try.func58 ?_
 have M0 := Mem.refl [] w
 refine G_seq (G_region (wR 1 [(0, .slice c d.length g), (1, iv A), (2, iv n), (3, .slice u o.length q)] w (W_nil (N_then (G_seq (G_region ?_))))))
 have bi : Mem [] w w [] := M0.pk []
 have bj : Mem [] w w [[]] := bi.regroup (by simp)
 refine W_litD (D := deepBalloon) [] ([] : List Balloon) rfl 0 [] 50 bj (by kernel_rfl) (by kernel_rfl) (by kernel_rfl) (by kernel_rfl) (by kernel_rfl) ownI_nil ?_
 intro ai ab cv bd cf bk
 refine wR 1 [(0, .slice c d.length g), (1, iv A), (2, iv n), (3, .slice u o.length q), (9, .slice ai ([] : List Balloon).length ab)] bd (W_nil (N_then (G_seq (G_seq (G_region (wR 1 [(0, .slice c d.length g), (1, iv A), (2, iv n), (3, .slice u o.length q), (9, .slice ai ([] : List Balloon).length ab), (10, iv 0)] bd (W_nil (N_then ?_))))))))
 obtain ⟨V, cq, ce⟩ := gx_bind hm
 refine G_meet (fun a w' => ∃ (S : Option Addr), ∃ (P : Nat), ∃ (X : Seg), ∃ (Y : Seg), ownD deepBalloon V S P X Y ∧ Mem [] w w' [X, Y] ∧ Sat Try.f58.ntmps [(9, .slice S V.length P)] a) ?_ ?_
 ·refine G_block (G_while (σ := List Balloon × Int) (ρ := List Balloon) (fun b a w' => ∃ (E : Option Addr), ∃ (C : Nat), ∃ (N : Seg), ∃ (G : Seg), ownD deepBalloon b.1 E C N G ∧ Mem [] w w' [N, G] ∧ Sat Try.f58.ntmps [(0, .slice c d.length g), (1, iv A), (2, iv n), (3, .slice u o.length q), (9, .slice E b.1.length C), (10, iv b.2)] a) cq (fun a ha => ⟨ai, ab, cv, [], cf, bk.pk [1, 0], ha.s⟩) ?_)
  clear hm
  intro b dw hm cm dk cy ⟨E, C, N, G, a8, am, b7⟩
  refine G_use b7 (G_seq (G_seq (G_region (wR 4 [(0, .slice c d.length g), (1, iv A), (2, iv n), (3, .slice u o.length q), (9, .slice E b.1.length C), (10, iv b.2), (16, .bool (decide (b.2 < (d.length : Int))))] cy (W_nil (N_then ?_))))))
  rcases gx_bif hm with ⟨ad, hm⟩ | ⟨ad, hm⟩
  ·refine gT ad (G_skip (N_then (G_seq (G_block (G_seq ?_)))))
   obtain ⟨l, cr, hm⟩ := gx_bind hm
   obtain ⟨dx, Q, K, cb⟩ := id b5
   obtain ⟨dn, af⟩ := gxIdx_fst Q cr
   obtain ⟨H, cs, hm⟩ := gx_bind hm
   obtain ⟨dp, ag⟩ := gxIdx_fst Q cs
   obtain ⟨O, ct, hm⟩ := gx_bind hm
   obtain ⟨B, U⟩ := gxIdx_fst Q ct
   obtain ⟨F, cn, hm⟩ := gx_bind hm
   refine G_sub [(0, .slice c d.length g), (1, iv A), (2, iv n), (3, .slice u o.length q), (9, .slice E b.1.length C), (10, iv b.2), (16, .bool (decide (b.2 < (d.length : Int))))] (by kernel_rfl) (G_dagL 18 [[], [], [0, 1], [2], [3], [], [], [5, 6], [7], [8], [], [], [10, 11], [12], [13], [14], [4, 9], []] [[], [], [], [], [], [], [], [], [], [], [], [], [], [], [], [], [], []] [[], [], [], [], [], [], [], [], [], [], [], [], [], [], [], [], [], []] [[], [], [], [], [], [], [], [], [], [], [], [], [], [], [], [], [15], []] [[], [], [], [], [], [], [], [], [], [], [], [], [], [], [], [], [15], []] [[], [], [], [], [], [], [], [], [], [], [], [], [], [], [], [], [], []] (fun _ => []) (fun i => ([fun f v s => v = (.slice c d.length g : Value) ∧ s = [], fun f v s => v = (iv b.2 : Value) ∧ s = [], fun f v s => v = (elemP c (b.2.toNat * 3) : Value) ∧ s = [], fun f v s => v = (elemP c (b.2.toNat * 3 + 0) : Value) ∧ s = [], fun f v s => v = (iv l.Guest : Value) ∧ s = [], fun f v s => v = (.slice c d.length g : Value) ∧ s = [], fun f v s => v = (iv b.2 : Value) ∧ s = [], fun f v s => v = (elemP c (b.2.toNat * 3) : Value) ∧ s = [], fun f v s => v = (elemP c (b.2.toNat * 3 + 1) : Value) ∧ s = [], fun f v s => v = (iv H.Goal : Value) ∧ s = [], fun f v s => v = (.slice c d.length g : Value) ∧ s = [], fun f v s => v = (iv b.2 : Value) ∧ s = [], fun f v s => v = (elemP c (b.2.toNat * 3) : Value) ∧ s = [], fun f v s => v = (elemP c (b.2.toNat * 3 + 2) : Value) ∧ s = [], fun f v s => v = (.slice ((B 0).1) O.Gave.length ((B 0).2) : Value) ∧ s = [], fun f v s => ∃ (z : Option Addr) (y : Nat), v = (.slice z F.length y : Value) ∧ ownS Gx.encI F z y s, fun f v s => v = (.agg #[iv l.Guest, iv H.Goal, (atPath (f 15) [])] : Value) ∧ s = [], fun f v s => ∃ (k : Nat), v = (pB k 0 : Value) ∧ s = [(k, .cells ⟨[iv 0, iv 0, .slice none 0 0]⟩ 50 (0, 0))]] : List ((Nat → Value) → Value → Seg → Prop)).getD i (fun _ _ _ => False)) (fun j f v => ∃ s, (fun i => ([fun f v s => v = (.slice c d.length g : Value) ∧ s = [], fun f v s => v = (iv b.2 : Value) ∧ s = [], fun f v s => v = (elemP c (b.2.toNat * 3) : Value) ∧ s = [], fun f v s => v = (elemP c (b.2.toNat * 3 + 0) : Value) ∧ s = [], fun f v s => v = (iv l.Guest : Value) ∧ s = [], fun f v s => v = (.slice c d.length g : Value) ∧ s = [], fun f v s => v = (iv b.2 : Value) ∧ s = [], fun f v s => v = (elemP c (b.2.toNat * 3) : Value) ∧ s = [], fun f v s => v = (elemP c (b.2.toNat * 3 + 1) : Value) ∧ s = [], fun f v s => v = (iv H.Goal : Value) ∧ s = [], fun f v s => v = (.slice c d.length g : Value) ∧ s = [], fun f v s => v = (iv b.2 : Value) ∧ s = [], fun f v s => v = (elemP c (b.2.toNat * 3) : Value) ∧ s = [], fun f v s => v = (elemP c (b.2.toNat * 3 + 2) : Value) ∧ s = [], fun f v s => v = (.slice ((B 0).1) O.Gave.length ((B 0).2) : Value) ∧ s = [], fun f v s => ∃ (z : Option Addr) (y : Nat), v = (.slice z F.length y : Value) ∧ ownS Gx.encI F z y s, fun f v s => v = (.agg #[iv l.Guest, iv H.Goal, (atPath (f 15) [])] : Value) ∧ s = [], fun f v s => ∃ (k : Nat), v = (pB k 0 : Value) ∧ s = [(k, .cells ⟨[iv 0, iv 0, .slice none 0 0]⟩ 50 (0, 0))]] : List ((Nat → Value) → Value → Seg → Prop)).getD i (fun _ _ _ => False)) j f v s) [] [15, 16, 17] [15, 17] (fun _ _ _ s h => ⟨s, h⟩) (by kernel_rfl) (by kernel_rfl) (am.preNil 18) (by kernel_rfl) (by kernel_rfl) (by kernel_rfl) (by kernel_rfl) (allOb_cons ?_ (allOb_cons ?_ (allOb_cons ?_ (allOb_cons ?_ (allOb_cons ?_ (allOb_cons ?_ (allOb_cons ?_ (allOb_cons ?_ (allOb_cons ?_ (allOb_cons ?_ (allOb_cons ?_ (allOb_cons ?_ (allOb_cons ?_ (allOb_cons ?_ (allOb_cons ?_ (allOb_cons ?_ (allOb_cons ?_ (allOb_cons ?_ allOb_nil)))))))))))))))))) ?_)
   ·intro m x
    intro R cz bl
    exact wR 1 [(19, .slice c d.length g)] cz (W_nil (oE (.slice c d.length g) [] ⟨by kernel_rfl, rfl⟩ bl))
   ·intro m x
    intro R c0 bm
    exact wR 1 [(20, iv b.2)] c0 (W_nil (oE (iv b.2) [] ⟨by kernel_rfl, rfl⟩ bm))
   ·intro m x
    intro v0_ hb0_
    obtain ⟨rfl, _⟩ := hb0_
    intro v1_ hb1_
    obtain ⟨rfl, _⟩ := hb1_
    intro R c1 an
    exact wV (elemP c (b.2.toNat * 3)) c1 (eI (K.mem0 an) (len_fst Q) af) (W_nil (oE (elemP c (b.2.toNat * 3)) [] ⟨by kernel_rfl, rfl⟩ an))
   ·intro m x
    intro v2_ hb2_
    obtain ⟨rfl, _⟩ := hb2_
    intro R c2 ao
    exact wV (elemP c (b.2.toNat * 3 + 0)) c2 (eF 0 (b.2.toNat * 3) 0 (K.mem0 ao) af) (W_nil (oE (elemP c (b.2.toNat * 3 + 0)) [] ⟨by kernel_rfl, rfl⟩ ao))
   ·intro m x
    intro v3_ hb3_
    obtain ⟨rfl, _⟩ := hb3_
    intro R c3 ap
    exact wV (iv l.Guest) c3 (eE false 1 0 (b.2.toNat * 3 + 0) (K.mem0 ap) af) (W_nil (oE (iv l.Guest) [] ⟨by kernel_rfl, rfl⟩ ap))
   ·intro m x
    intro R c4 bn
    exact wR 1 [(24, .slice c d.length g)] c4 (W_nil (oE (.slice c d.length g) [] ⟨by kernel_rfl, rfl⟩ bn))
   ·intro m x
    intro R c5 bo
    exact wR 1 [(25, iv b.2)] c5 (W_nil (oE (iv b.2) [] ⟨by kernel_rfl, rfl⟩ bo))
   ·intro m x
    intro v5_ hb5_
    obtain ⟨rfl, _⟩ := hb5_
    intro v6_ hb6_
    obtain ⟨rfl, _⟩ := hb6_
    intro R c6 aq
    exact wV (elemP c (b.2.toNat * 3)) c6 (eI (K.mem0 aq) (len_fst Q) ag) (W_nil (oE (elemP c (b.2.toNat * 3)) [] ⟨by kernel_rfl, rfl⟩ aq))
   ·intro m x
    intro v7_ hb7_
    obtain ⟨rfl, _⟩ := hb7_
    intro R c7 ar
    exact wV (elemP c (b.2.toNat * 3 + 1)) c7 (eF 1 (b.2.toNat * 3) 1 (K.mem0 ar) ag) (W_nil (oE (elemP c (b.2.toNat * 3 + 1)) [] ⟨by kernel_rfl, rfl⟩ ar))
   ·intro m x
    intro v8_ hb8_
    obtain ⟨rfl, _⟩ := hb8_
    intro R c8 au
    exact wV (iv H.Goal) c8 (eE false 1 1 (b.2.toNat * 3 + 1) (K.mem0 au) ag) (W_nil (oE (iv H.Goal) [] ⟨by kernel_rfl, rfl⟩ au))
   ·intro m x
    intro R c9 bp
    exact wR 1 [(29, .slice c d.length g)] c9 (W_nil (oE (.slice c d.length g) [] ⟨by kernel_rfl, rfl⟩ bp))
   ·intro m x
    intro R da bq
    exact wR 1 [(30, iv b.2)] da (W_nil (oE (iv b.2) [] ⟨by kernel_rfl, rfl⟩ bq))
   ·intro m x
    intro v10_ hb10_
    obtain ⟨rfl, _⟩ := hb10_
    intro v11_ hb11_
    obtain ⟨rfl, _⟩ := hb11_
    intro R db av
    exact wV (elemP c (b.2.toNat * 3)) db (eI (K.mem0 av) (len_fst Q) U) (W_nil (oE (elemP c (b.2.toNat * 3)) [] ⟨by kernel_rfl, rfl⟩ av))
   ·intro m x
    intro v12_ hb12_
    obtain ⟨rfl, _⟩ := hb12_
    intro R dc aw
    exact wV (elemP c (b.2.toNat * 3 + 2)) dc (eF 2 (b.2.toNat * 3) 2 (K.mem0 aw) U) (W_nil (oE (elemP c (b.2.toNat * 3 + 2)) [] ⟨by kernel_rfl, rfl⟩ aw))
   ·intro m x
    intro v13_ hb13_
    obtain ⟨rfl, _⟩ := hb13_
    intro R dd ax
    exact wV (.slice ((B 0).1) O.Gave.length ((B 0).2)) dd (eE false 1 2 (b.2.toNat * 3 + 2) (K.mem0 ax) U) (W_nil (oE (.slice ((B 0).1) O.Gave.length ((B 0).2)) [] ⟨by kernel_rfl, rfl⟩ ax))
   ·intro m x
    intro v14_ hb14_
    obtain ⟨rfl, _⟩ := hb14_
    intro R de ay
    refine wC 71 #[.slice ((B 0).1) O.Gave.length ((B 0).2)] ((c_s_l1Own de O.Gave ((B 0).1) ((B 0).2) ((cb.mem0 ay).at_ U 0 ⟨Int, Gx.encI, O.Gave, (B 0).1, (B 0).2⟩ (by kernel_rfl)) cn).mono ?_)
    rintro e_ dr ⟨z, y, cw, rfl, ah, bg⟩
    refine ⟨_, rfl, ?_⟩
    exact W_nil (oE (.slice z F.length y) cw ⟨z, y, rfl, ah⟩ (Mem.callMid ay bg))
   ·intro m x
    intro v15_ hb15_
    obtain ⟨_, z, y, rfl, _⟩ := hb15_
    intro v4_ hb4_
    obtain ⟨rfl, _⟩ := hb4_
    intro v9_ hb9_
    obtain ⟨rfl, _⟩ := hb9_
    intro R df br
    exact wR 1 [(35, .agg #[iv l.Guest, iv H.Goal, .slice z F.length y])] df (W_nil (oE (.agg #[iv l.Guest, iv H.Goal, .slice z F.length y]) [] ⟨by kernel_rfl, rfl⟩ br))
   ·intro m x
    intro R ds bs
    refine wN (.cells ⟨[iv 0, iv 0, .slice none 0 0]⟩ 50 (0, 0)) bs ?_
    intro k dt bt
    exact W_nil (oE (pB k 0) [(k, .cells ⟨[iv 0, iv 0, .slice none 0 0]⟩ 50 (0, 0))] ⟨k, rfl, rfl⟩ (Mem.mid bt))
   intro m x
   intro v15_ hb15_
   obtain ⟨z, y, rfl, ah⟩ := hb15_
   intro v16_ hb16_
   obtain ⟨hv16_, _⟩ := hb16_
   obtain rfl : v16_ = (.agg #[iv l.Guest, iv H.Goal, .slice z F.length y] : Value) := hv16_.trans (by kernel_rfl)
   intro v17_ hb17_
   obtain ⟨k, rfl, hs17_⟩ := hb17_
   intro dg bu
   have az : Mem [] w dg [N, G, (m 15), (m 17)] := bu
   rw [hs17_] at az
   refine wS true 3 0 (.agg #[iv l.Guest, iv H.Goal, .slice z F.length y]) 3 [iv l.Guest, iv H.Goal, .slice z F.length y] az rfl ?_
   intro be a0
   refine W_nil (N_then (G_seq (G_seq (G_region (wR 3 [(0, .slice c d.length g), (1, iv A), (2, iv n), (3, .slice u o.length q), (9, .slice E b.1.length C), (10, iv b.2), (11, pB k 0), (38, .bool (b.2 == A))] be (W_nil (N_then ?_)))))))
   obtain ⟨t, ch, cd⟩ := gx_bind hm
   refine G_meet (fun a w' => ∃ (J : Option Addr), ∃ (I : Nat), ∃ (L : Seg), ownS Gx.encI t.2 J I L ∧ Mem [] w w' [N, G, [(k, .cells ⟨[iv l.Guest, iv t.1, .slice J t.2.length I]⟩ 50 (0, 0))], L] ∧ Sat Try.f58.ntmps [(0, .slice c d.length g), (1, iv A), (2, iv n), (3, .slice u o.length q), (9, .slice E b.1.length C), (10, iv b.2), (11, pB k 0)] a) ?_ ?_
   ·have hm := ch
    rcases gx_bif hm with ⟨ae, hm⟩ | ⟨ae, hm⟩
    ·refine gT ae (G_seq (G_region (wR 2 [(0, .slice c d.length g), (1, iv A), (2, iv n), (3, .slice u o.length q), (9, .slice E b.1.length C), (10, iv b.2), (11, pB k 0), (39, iv n), (40, pB k 1)] be (wS false 1 1 (iv n) 3 [iv l.Guest, iv n, .slice z F.length y] a0 rfl ?_))))
     intro bf a3
     refine W_nil (N_then (G_region (wR 1 [(0, .slice c d.length g), (1, iv A), (2, iv n), (3, .slice u o.length q), (9, .slice E b.1.length C), (10, iv b.2), (11, pB k 0), (41, .slice u o.length q)] bf ?_)))
     obtain ⟨ak, co, hm⟩ := gx_bind hm
     refine wC 71 #[.slice u o.length q] ((c_s_l1Own bf o u q (b6.mem0 a3) co).mono ?_)
     rintro e_ dh ⟨W, T, cx, rfl, cj, bh⟩
     have bv := a3.call bh
     refine ⟨_, rfl, ?_⟩
     refine wR 1 [(0, .slice c d.length g), (1, iv A), (2, iv n), (3, .slice u o.length q), (9, .slice E b.1.length C), (10, iv b.2), (11, pB k 0), (42, .slice W ak.length T), (43, pB k 2)] dh (wS false 1 2 (.slice W ak.length T) 3 [iv l.Guest, iv n, .slice W ak.length T] bv rfl ?_)
     intro du bw
     refine W_nil ?_
     obtain rfl := Option.some.inj hm
     exact N_meet fun a ha => ⟨W, T, cx, cj, bw.pk [0, 1, 3, 4], ha.s⟩
    refine gF ae (G_skip ?_)
    obtain rfl := Option.some.inj hm
    exact N_meet fun a ha => ⟨z, y, (m 15), ah, a0.pk [0, 1, 3, 2], ha.s⟩
   intro dl Z ⟨J, I, L, ci, a4, b8⟩
   refine N_use b8 ?_
   have hm := cd
   refine N_then (G_region (wR 1 [(0, .slice c d.length g), (1, iv A), (2, iv n), (3, .slice u o.length q), (9, .slice E b.1.length C), (10, iv b.2), (11, pB k 0), (44, .slice E b.1.length C)] Z (wV (.agg #[iv l.Guest, iv t.1, .slice J t.2.length I]) Z (eL true 3 0 (a4.blk 2 rfl)) ?_)))
   have bx : Mem [] w Z [N, G, [(k, .cells ⟨[iv l.Guest, iv t.1, .slice J t.2.length I]⟩ 50 (0, 0))], L] := a4.pk [0, 1, 2, 3]
   have bz : Mem [] w Z [N, G, [(k, .cells ⟨[iv l.Guest, iv t.1, .slice J t.2.length I]⟩ 50 (0, 0))], (L ++ [])] := bx.regroup (by simp)
   refine W_litD (D := deepBalloon) [((⟨l.Guest, t.1, t.2⟩ : Balloon), plOf [(J, I)])] [(⟨l.Guest, t.1, t.2⟩ : Balloon)] rfl 1 [iv l.Guest, iv t.1, .slice J t.2.length I] 50 bz (by kernel_rfl) (by kernel_rfl) (by kernel_rfl) (by kernel_rfl) (by kernel_rfl) (ownI_cons (i := ⟨Int, Gx.encI, _, _, _⟩) ci ownI_nil) ?_
   intro dq b4 bc dv ck a5
   obtain ⟨a6, ca, hm⟩ := gx_bind hm
   obtain ⟨dj, cu, cp, cc⟩ := id ck
   refine W_appendD (D := deepBalloon) (us := dj) (s2 := (L ++ [])) _ _ _ 40 [iv 0, iv 0, .slice none 0 0] 0 b4 a5 a8 (by kernel_rfl) (by kernel_rfl) (by kernel_rfl) rfl (by kernel_rfl) (by kernel_rfl) (by kernel_rfl) (by kernel_rfl) (by kernel_rfl) (by kernel_rfl) (cp.rd a5 4 (by kernel_rfl)) cu cc ca ?_
   intro aj ac al aa cl b0
   have b1 : Mem [] w aa [al, [(k, .cells ⟨[iv l.Guest, iv t.1, .slice J t.2.length I]⟩ 50 (0, 0))], bc, G, (L ++ [])] := b0.pk [0, 2, 4, 1, 3]
   have b2 : Mem [] w aa [al, [(k, .cells ⟨[iv l.Guest, iv t.1, .slice J t.2.length I]⟩ 50 (0, 0))], bc, (G ++ (L ++ []))] := b1.regroup (by simp)
   refine wR 1 [(0, .slice c d.length g), (1, iv A), (2, iv n), (3, .slice u o.length q), (9, .slice aj a6.length ac), (10, iv b.2)] aa (W_nil (N_block (N_then (G_region (wR 3 [(0, .slice c d.length g), (1, iv A), (2, iv n), (3, .slice u o.length q), (9, .slice aj a6.length ac), (10, iv (w64 (b.2 + 1)))] aa (W_nil ?_))))))
   obtain rfl := Option.some.inj hm
   exact N_loop fun a ha => ⟨_, rfl, aj, ac, al, (G ++ (L ++ [])), cl, b2.pk [0, 3], ha.s⟩
  refine gF ad (G_exit (N_then_exit (N_then_exit (N_block_eq ?_))))
  obtain rfl := Option.some.inj hm
  obtain rfl := cm _ rfl
  exact N_meet fun a ha => ⟨E, C, N, G, a8, am.pk [0, 1], ha.s⟩
 intro dm di ⟨S, P, X, Y, cg, b3, b9⟩
 refine N_use b9 ?_
 have hm := ce
 refine N_then (G_seq (G_region (wR 2 [(8, .slice S V.length P)] di (W_nil (N_then (G_ret ?_))))))
 obtain rfl := Option.some.inj hm
 exact N_ret [.slice S V.length P] (rC RVs_nil) (⟨S, P, X, Y, rfl, cg, b3.pk [0, 1]⟩)
theorem c_s_SetGoal (w : World) (h : List Int) (k : Option Addr) (i : Nat) (Y : rdS Gx.encI w h k i) (c : List Balloon) (b : Option Addr) (d : Nat) (q : rdD deepBalloon w c b d) (o : Int) (f : Int) {r : (List Balloon) × Bool} (hm : M.s_SetGoal h c o f = some r) :
  Calls Try.prog 22 #[.slice k h.length i, .slice b c.length d, iv o, iv f] w fun e w' => ∃ (K : Option Addr) (I : Nat) (N : Seg) (O : Seg), e = .returned (.tuple #[.slice K r.1.length I, .bool r.2]) ∧ ownD deepBalloon r.1 K I N O ∧ Mem [] w w' [N, O] := by
 unfold M.s_SetGoal at hm
 refine cE Try.func22 ?_
 have M0 := Mem.refl [] w
 refine G_seq (G_region (wR 2 [(0, .slice k h.length i), (1, .slice b c.length d), (2, iv o), (3, iv f)] w (W_nil (N_then (G_seq (G_region (wR 2 [(0, .slice k h.length i), (1, .slice b c.length d), (3, iv f), (11, .slice b c.length d), (12, iv o)] w ?_)))))))
 obtain ⟨g, af, hm⟩ := gx_bind hm
 refine wC 56 #[.slice b c.length d, iv o] ((c_s_l18Find w c b d (q.mem0 M0) o af).mono ?_)
 rintro e_ H ⟨rfl, P⟩
 have v := M0.call0 P
 refine ⟨_, rfl, ?_⟩
 refine wR 1 [(0, .slice k h.length i), (1, .slice b c.length d), (3, iv f), (10, iv g)] H (W_nil (N_then (G_seq (G_seq ?_))))
 obtain ⟨ak, ac, ab⟩ := gx_bind hm
 refine G_meet (fun a w' => Mem [] w w' [] ∧ Sat Try.f22.ntmps [(1, .slice b c.length d), (3, iv f), (10, iv g), (26, .bool ak)] a) ?_ ?_
 ·have hm := ac
  refine G_region (wR 2 [(1, .slice b c.length d), (3, iv f), (10, iv g), (14, .slice k h.length i), (15, .slice b c.length d)] H ?_)
  obtain ⟨al, ag, hm⟩ := gx_bind hm
  refine wC 47 #[.slice k h.length i, .slice b c.length d] ((c_s_l18Good H h k i (Y.mem0 v) c b d (q.mem0 v) ag).mono ?_)
  rintro e_ n ⟨rfl, Q⟩
  have x := v.call0 Q
  refine ⟨_, rfl, ?_⟩
  refine wR 2 [(1, .slice b c.length d), (3, iv f), (10, iv g), (18, .bool (!al))] n ?_
  rcases gx_bif hm with ⟨A, hm⟩ | ⟨A, hm⟩
  ·refine wK 18 true A (wR 8 [(1, .slice b c.length d), (3, iv f), (10, iv g), (26, .bool true)] n (W_nil ?_))
   obtain rfl := Option.some.inj hm
   exact N_meet fun a ha => ⟨x.pk [], ha.s⟩
  refine wK 18 false A (wR 4 [(1, .slice b c.length d), (3, iv f), (10, iv g), (22, .bool (decide (g < 0)))] n ?_)
  rcases gx_bif hm with ⟨B, hm⟩ | ⟨B, hm⟩
  ·refine wK 22 true B (wR 4 [(1, .slice b c.length d), (3, iv f), (10, iv g), (26, .bool true)] n (W_nil ?_))
   obtain rfl := Option.some.inj hm
   exact N_meet fun a ha => ⟨x.pk [], ha.s⟩
  refine wK 22 false B (wR 1 [(1, .slice b c.length d), (3, iv f), (10, iv g), (22, .bool false), (23, iv f)] n ?_)
  obtain ⟨am, ah, hm⟩ := gx_bind hm
  refine wC 57 #[iv f, iv 0, iv 16] ((c_s_l1In n f 0 16 ah).mono ?_)
  rintro e_ aq ⟨rfl, R⟩
  have T := x.call0 R
  refine ⟨_, rfl, ?_⟩
  refine wR 2 [(1, .slice b c.length d), (3, iv f), (10, iv g), (26, .bool (!am))] aq (W_nil ?_)
  obtain rfl := Option.some.inj hm
  exact N_meet fun a ha => ⟨T.pk [], ha.s⟩
 intro av m ⟨l, Z⟩
 refine N_use Z ?_
 have hm := ab
 refine N_then ?_
 rcases gx_bif hm with ⟨C, hm⟩ | ⟨C, hm⟩
 ·refine gT C (G_seq (G_region ?_))
  have U : Mem [] w m [] := l.pk []
  have V : Mem [] w m [[]] := U.regroup (by simp)
  refine W_litD (D := deepBalloon) [] ([] : List Balloon) rfl 0 [] 50 V (by kernel_rfl) (by kernel_rfl) (by kernel_rfl) (by kernel_rfl) (by kernel_rfl) ownI_nil ?_
  intro F y an ar ad W
  refine wR 2 [(8, .slice F ([] : List Balloon).length y), (9, .bool false)] ar (W_nil (N_then (G_ret (N_then_ret ?_))))
  obtain rfl := Option.some.inj hm
  exact N_ret [.slice F ([] : List Balloon).length y, .bool false] (rC (rC RVs_nil)) (⟨F, y, an, [], rfl, ad, W.pk [1, 0]⟩)
 refine gF C (G_skip (N_then (G_seq (G_region (wR 5 [(28, .slice b c.length d), (29, iv g), (30, iv f), (31, .slice b c.length d), (32, iv g)] m ?_)))))
 obtain ⟨u, aj, hm⟩ := gx_bind hm
 obtain ⟨aw, J, E, aa⟩ := id q
 obtain ⟨j, t⟩ := gxIdx_fst J aj
 refine wV (elemP b (g.toNat * 3)) m (eI (E.mem0 l) (len_fst J) t) (wV (elemP b (g.toNat * 3 + 2)) m (eF 2 (g.toNat * 3) 2 (E.mem0 l) t) (wV (.slice ((j 0).1) u.Gave.length ((j 0).2)) m (eE false 1 2 (g.toNat * 3 + 2) (E.mem0 l) t) ?_))
 obtain ⟨L, ai, hm⟩ := gx_bind hm
 refine wC 58 #[.slice b c.length d, iv g, iv f, .slice ((j 0).1) u.Gave.length ((j 0).2)] ((c_s_l18With m c b d (q.mem0 l) g f u.Gave ((j 0).1) ((j 0).2) ((aa.mem0 l).at_ t 0 ⟨Int, Gx.encI, u.Gave, (j 0).1, (j 0).2⟩ (by kernel_rfl)) ai).mono ?_)
 rintro e_ au ⟨G, z, ao, ap, rfl, ae, S⟩
 have X := l.call S
 refine ⟨_, rfl, ?_⟩
 refine wR 2 [(8, .slice G L.length z), (9, .bool true)] au (W_nil (N_then (G_ret ?_)))
 obtain rfl := Option.some.inj hm
 exact N_ret [.slice G L.length z, .bool true] (rC (rC RVs_nil)) (⟨G, z, ao, ap, rfl, ae, X.pk [0, 1]⟩)
theorem c_i_balloonOf_1 (w : World) (a : Balloon) (h : Option Addr) (g : Nat) (k : rdS Gx.encI w a.Gave h g) (c : Int) (d : Nat) (j : w.heap[d]? = some (.cells ⟨[iv c]⟩ 3 (0, 0))) {r : Bool} (hm : M.i_balloonOf_1 a c = some r) :
  Calls Try.prog 86 #[.agg #[iv a.Guest, iv a.Goal, .slice h a.Gave.length g], pB d 0] w fun e w' => e = .returned (.bool r) ∧ Mem [] w w' [] := by
 unfold M.i_balloonOf_1 at hm
 refine cE Try.func86 ?_
 have M0 := Mem.refl [] w
 refine G_seq (G_region (wN (.cells ⟨[iv a.Guest, iv a.Goal, .slice h a.Gave.length g]⟩ 50 (0, 0)) M0 ?_))
 intro i b f
 refine wR 1 [(1, pB d 0), (2, pB i 0)] b (W_nil (N_then (G_seq (G_region (wR 1 [(1, pB d 0), (4, pB i 0)] b (wV (iv a.Guest) b (eL false 1 0 (f.blk 0 rfl)) (wV (iv c) b (eL false 1 0 (f.ro j)) (wR 2 [(3, .bool (a.Guest == c))] b (W_nil (N_then (G_ret ?_)))))))))))
 obtain rfl := Option.some.inj hm
 exact N_ret [.bool (a.Guest == c)] (rC RVs_nil) (⟨rfl, f.pk []⟩)
theorem c_slices_IndexFunc_85__i_balloonOf_1 (w : World) (b : List Balloon) (f : Option Addr) (g : Nat) (C : rdD deepBalloon w b f g) (o : Int) (d : Nat) (F : w.heap[d]? = some (.cells ⟨[iv o]⟩ 3 (0, 0))) {r : Int} (hm : M.slices_IndexFunc_85__i_balloonOf_1 b o = some r) :
  Calls Try.prog 85 #[.slice f b.length g, .func (.func 86) #[] #[pB d 0]] w fun e w' => e = .returned (iv r) ∧ Mem [] w w' [] := by
 unfold M.slices_IndexFunc_85__i_balloonOf_1 at hm
 refine cE Try.func85 ?_
 have M0 := Mem.refl [] w
 refine G_seq (G_region (wR 1 [(0, .slice f b.length g), (1, .func (.func 86) #[] #[pB d 0])] w (W_nil (N_then (G_seq (G_seq (G_region (wR 3 [(0, .slice f b.length g), (1, .func (.func 86) #[] #[pB d 0]), (7, iv (b.length : Int)), (8, iv 0)] w (W_nil (N_then ?_))))))))))
 obtain ⟨K, I, t⟩ := gx_bind hm
 refine G_meet (fun a w' => ∃ (y : Unit), K = .inl y ∧ Mem [] w w' [] ∧ Sat Try.f85.ntmps [] a) ?_ ?_
 ·refine G_block (G_while (σ := Int) (ρ := (Unit) ⊕ (Int)) (fun c a w' => Mem [] w w' [] ∧ Sat Try.f85.ntmps [(0, .slice f b.length g), (1, .func (.func 86) #[] #[pB d 0]), (7, iv (b.length : Int)), (8, iv c)] a) I (fun a ha => ⟨M0.pk [], ha.s⟩) ?_)
  clear hm
  intro c Q hm u N k ⟨j, D⟩
  refine G_use D (G_seq (G_region (wR 1 [(0, .slice f b.length g), (1, .func (.func 86) #[] #[pB d 0]), (7, iv (b.length : Int)), (8, iv c), (9, .bool (decide (c < (b.length : Int))))] k (W_nil (N_then (G_seq ?_))))))
  rcases gx_bif hm with ⟨l, hm⟩ | ⟨l, hm⟩
  ·refine gT l (G_skip (N_then (G_seq (G_block (G_seq (G_region (wR 2 [(0, .slice f b.length g), (1, .func (.func 86) #[] #[pB d 0]), (5, iv c), (7, iv (b.length : Int)), (8, iv c)] k (W_nil (N_then (G_seq (G_region (wR 3 [(0, .slice f b.length g), (1, .func (.func 86) #[] #[pB d 0]), (5, iv c), (7, iv (b.length : Int)), (8, iv c), (11, .func (.func 86) #[] #[pB d 0]), (12, .slice f b.length g), (13, iv c)] k ?_))))))))))))
   obtain ⟨i, J, hm⟩ := gx_bind hm
   obtain ⟨R, x, v, G⟩ := id C
   obtain ⟨h, n⟩ := gxIdx_fst x J
   refine wV (elemP f (c.toNat * 3)) k (eI (v.mem0 j) (len_fst x) n) (wV (.agg #[iv i.Guest, iv i.Goal, .slice ((h 0).1) i.Gave.length ((h 0).2)]) k (eE true 3 0 (c.toNat * 3) (v.mem0 j) n) ?_)
   obtain ⟨P, H, hm⟩ := gx_bind hm
   refine wC 86 #[.agg #[iv i.Guest, iv i.Goal, .slice ((h 0).1) i.Gave.length ((h 0).2)], pB d 0] ((c_i_balloonOf_1 k i ((h 0).1) ((h 0).2) ((G.mem0 j).at_ n 0 ⟨Int, Gx.encI, i.Gave, (h 0).1, (h 0).2⟩ (by kernel_rfl)) o d (j.ro F) H).mono ?_)
   rintro e_ z ⟨rfl, A⟩
   have q := j.call0 A
   refine ⟨_, rfl, ?_⟩
   refine W_nil (N_then ?_)
   rcases gx_bif hm with ⟨m, hm⟩ | ⟨m, hm⟩
   ·refine gT m (G_seq (G_region (wR 2 [(4, iv c)] z (W_nil (N_then (G_ret (N_block_ret (N_then_ret (N_then_ret ?_)))))))))
    obtain rfl := Option.some.inj hm
    obtain rfl := u _ rfl
    have hm := t; simp only [Sum.elim_inr] at hm
    refine N_block_ret (N_meet_ret (N_then_ret ?_))
    obtain rfl := Option.some.inj hm
    exact N_ret [iv c] (rC RVs_nil) (⟨rfl, q.pk []⟩)
   refine gF m (G_skip (N_block (N_then (G_region (wR 2 [(0, .slice f b.length g), (1, .func (.func 86) #[] #[pB d 0]), (7, iv (b.length : Int)), (8, iv (w64 (c + 1)))] z (W_nil ?_))))))
   obtain rfl := Option.some.inj hm
   exact N_loop fun a ha => ⟨_, rfl, q.pk [], ha.s⟩
  refine gF l (G_exit (N_then_exit (N_then_exit (N_block_eq ?_))))
  obtain rfl := Option.some.inj hm
  obtain rfl := u _ rfl
  exact N_meet fun a ha => ⟨_, rfl, j.pk [], ha.s⟩
 intro O L ⟨y, hout_, B, E⟩
 refine N_use E ?_
 subst hout_
 have hm := t; simp only [Sum.elim_inl] at hm
 refine N_then (G_seq (G_region (wR 1 [(4, iv (-1))] L (W_nil (N_then (G_ret ?_))))))
 obtain rfl := Option.some.inj hm
 exact N_ret [iv (-1)] (rC RVs_nil) (⟨rfl, B.pk []⟩)
theorem c_i_balloonOf (w : World) (g : List Int) (i : Option Addr) (h : Nat) (D : rdS Gx.encI w g i h) (c : List Balloon) (f : Option Addr) (d : Nat) (z : rdD deepBalloon w c f d) (l : Int) {r : Int × Bool} (hm : M.i_balloonOf g c l = some r) :
  Calls Try.prog 59 #[.slice i g.length h, .slice f c.length d, iv l] w fun e w' => e = .returned (.tuple #[iv r.1, .bool r.2]) ∧ Mem [] w w' [] := by
 unfold M.i_balloonOf at hm
 refine cE Try.func59 ?_
 have M0 := Mem.refl [] w
 refine G_seq (G_region (wN (.cells ⟨[iv l]⟩ 3 (0, 0)) M0 ?_))
 intro k u n
 refine wR 2 [(0, .slice i g.length h), (1, .slice f c.length d), (5, pB k 0)] u (W_nil (N_then (G_seq (G_region (wR 2 [(0, .slice i g.length h), (1, .slice f c.length d), (9, .slice f c.length d), (10, .func (.func 86) #[] #[pB k 0])] u ?_)))))
 obtain ⟨j, H, hm⟩ := gx_bind hm
 refine wC 85 #[.slice f c.length d, .func (.func 86) #[] #[pB k 0]] ((c_slices_IndexFunc_85__i_balloonOf_1 u c f d (z.mem0 n) l k (n.blk 0 (b := k) (o := .cells ⟨[iv l]⟩ 3 (0, 0)) (by kernel_rfl)) H).mono ?_)
 rintro e_ v ⟨rfl, A⟩
 have q := n.call0 A
 refine ⟨_, rfl, ?_⟩
 refine wR 1 [(0, .slice i g.length h), (1, .slice f c.length d), (8, iv j)] v (W_nil (N_then (G_seq ?_)))
 obtain ⟨m, G, F⟩ := gx_bind hm
 refine G_meet (fun a w' => Mem [] w w' [] ∧ Sat Try.f59.ntmps [(6, iv m.1), (7, .bool m.2)] a) ?_ ?_
 ·have hm := G
  refine G_region (wR 3 [(8, iv j), (12, iv j), (13, .slice i g.length h), (14, .slice f c.length d)] v ?_)
  obtain ⟨J, I, hm⟩ := gx_bind hm
  refine wC 17 #[.slice i g.length h, .slice f c.length d] ((c_i_AreBalloons v g i h (D.mem0 q) c f d (z.mem0 q) I).mono ?_)
  rintro e_ x ⟨rfl, B⟩
  have y := q.call0 B
  refine ⟨_, rfl, ?_⟩
  refine wR 1 [(8, iv j), (12, iv j), (16, .bool J)] x ?_
  rcases gx_bif hm with ⟨t, hm⟩ | ⟨t, hm⟩
  ·refine wK 16 true t (wR 5 [(6, iv j), (7, .bool (decide (j ≥ 0)))] x (W_nil ?_))
   obtain rfl := Option.some.inj hm
   exact N_meet fun a ha => ⟨y.pk [], ha.s⟩
  refine wK 16 false t (wR 5 [(6, iv j), (7, .bool false)] x (W_nil ?_))
  obtain rfl := Option.some.inj hm
  exact N_meet fun a ha => ⟨y.pk [], ha.s⟩
 intro K L ⟨C, E⟩
 refine N_use E ?_
 have hm := F
 refine N_then (G_ret ?_)
 obtain rfl := Option.some.inj hm
 exact N_ret [iv m.1, .bool m.2] (rC (rC RVs_nil)) (⟨rfl, C.pk []⟩)
theorem c_i_copyInts (w : World) (a : List Int) (c : Option Addr) (b : Nat) (n : rdS Gx.encI w a c b) {r : (List Int)} (hm : M.i_copyInts a = some r) :
  Calls Try.prog 62 #[.slice c a.length b] w fun e w' => ∃ (j : Option Addr) (i : Nat) (k : Seg), e = .returned (.slice j r.length i) ∧ ownS Gx.encI r j i k ∧ Mem [] w w' [k] := by
 unfold M.i_copyInts at hm
 refine cE Try.func62 ?_
 have M0 := Mem.refl [] w
 refine G_seq (G_region (wR 1 [(0, .slice c a.length b)] w (W_nil (N_then (G_seq (G_region (wL (E := Gx.encI) ([] : List Int) 0 [] 3 M0 ?_)))))))
 intro u m z x q g
 refine wR 1 [(3, .slice u ([] : List Int).length m), (4, .slice c a.length b)] x ?_
 obtain ⟨h, o, hm⟩ := gx_bind hm
 refine wA 8 [iv 0] 0 g q (n.mem0 g) o ?_
 intro f d v y t l
 refine wR 1 [(2, .slice f h.length d)] y (W_nil (N_then (G_ret ?_)))
 obtain rfl := Option.some.inj hm
 exact N_ret [.slice f h.length d] (rC RVs_nil) (⟨f, d, v, rfl, t, l.pk [0]⟩)
theorem c_i_newBalloons (w : World) (c : List Balloon) (g : Option Addr) (h : Nat) (ap : rdD deepBalloon w c g h) {r : (List Balloon)} (hm : M.i_newBalloons c = some r) :
  Calls Try.prog 60 #[.slice g c.length h] w fun e w' => ∃ (X : Option Addr) (T : Nat) (Y : Seg) (Z : Seg), e = .returned (.slice X r.length T) ∧ ownD deepBalloon r X T Y Z ∧ Mem [] w w' [Y, Z] := by
 unfold M.i_newBalloons at hm
 refine cE Try.func60 ?_
 have M0 := Mem.refl [] w
 refine G_seq (G_region (wR 1 [(0, .slice g c.length h)] w (W_nil (N_then (G_seq (G_region ?_))))))
 have ad : Mem [] w w [] := M0.pk []
 have ae : Mem [] w w [[]] := ad.regroup (by simp)
 refine W_litD (D := deepBalloon) [] ([] : List Balloon) rfl 0 [] 50 ae (by kernel_rfl) (by kernel_rfl) (by kernel_rfl) (by kernel_rfl) (by kernel_rfl) ownI_nil ?_
 intro K G bb ab ay af
 refine wR 1 [(0, .slice g c.length h), (3, .slice K ([] : List Balloon).length G)] ab (W_nil (N_then (G_seq (G_seq (G_region (wR 3 [(3, .slice K ([] : List Balloon).length G), (7, .slice g c.length h), (8, iv (c.length : Int)), (9, iv 0)] ab (W_nil (N_then ?_))))))))
 obtain ⟨z, a8, ax⟩ := gx_bind hm
 refine G_meet (fun a w' => ∃ (u : Option Addr), ∃ (t : Nat), ∃ (A : Seg), ∃ (B : Seg), ownD deepBalloon z u t A B ∧ Mem [] w w' [A, B] ∧ Sat Try.f60.ntmps [(3, .slice u z.length t)] a) ?_ ?_
 ·refine G_block (G_while (σ := List Balloon × Int) (ρ := List Balloon) (fun d a w' => ∃ (o : Option Addr), ∃ (n : Nat), ∃ (v : Seg), ∃ (q : Seg), ownD deepBalloon d.1 o n v q ∧ Mem [] w w' [v, q] ∧ Sat Try.f60.ntmps [(3, .slice o d.1.length n), (7, .slice g c.length h), (8, iv (c.length : Int)), (9, iv d.2)] a) a8 (fun a ha => ⟨K, G, bb, [], ay, af.pk [1, 0], ha.s⟩) ?_)
  clear hm
  intro d bk hm a5 bf O ⟨o, n, v, q, U, y, aq⟩
  refine G_use aq (G_seq (G_region (wR 1 [(3, .slice o d.1.length n), (7, .slice g c.length h), (8, iv (c.length : Int)), (9, iv d.2), (10, .bool (decide (d.2 < (c.length : Int))))] O (W_nil (N_then (G_seq ?_))))))
  rcases gx_bif hm with ⟨I, hm⟩ | ⟨I, hm⟩
  ·refine gT I (G_skip (N_then (G_seq (G_block (G_seq (G_region ?_))))))
   obtain ⟨b, a9, hm⟩ := gx_bind hm
   obtain ⟨bl, W, V, av⟩ := id ap
   obtain ⟨f, J⟩ := gxIdx_fst W a9
   refine wV (elemP g (d.2.toNat * 3)) O (eI (V.mem0 y) (len_fst W) J) (wV (.agg #[iv b.Guest, iv b.Goal, .slice ((f 0).1) b.Gave.length ((f 0).2)]) O (eE true 3 0 (d.2.toNat * 3) (V.mem0 y) J) (wN (.cells ⟨[iv 0, iv 0, .slice none 0 0]⟩ 50 (0, 0)) y ?_))
   intro m bi ag
   refine wS true 3 0 (.agg #[iv b.Guest, iv b.Goal, .slice ((f 0).1) b.Gave.length ((f 0).2)]) 2 [iv b.Guest, iv b.Goal, .slice ((f 0).1) b.Gave.length ((f 0).2)] ag rfl ?_
   intro P F
   refine W_nil (N_then (G_seq (G_region (wR 1 [(3, .slice o d.1.length n), (5, pB m 0), (7, .slice g c.length h), (8, iv (c.length : Int)), (9, iv d.2), (13, pB m 2)] P (wV (.slice ((f 0).1) b.Gave.length ((f 0).2)) P (eL false 1 2 (F.blk 2 rfl)) ?_)))))
   obtain ⟨j, a6, hm⟩ := gx_bind hm
   refine wC 62 #[.slice ((f 0).1) b.Gave.length ((f 0).2)] ((c_i_copyInts P b.Gave ((f 0).1) ((f 0).2) ((av.mem0 F).at_ J 0 ⟨Int, Gx.encI, b.Gave, (f 0).1, (f 0).2⟩ (by kernel_rfl)) a6).mono ?_)
   rintro e_ bc ⟨l, k, x, rfl, a0, ac⟩
   have ah := F.call ac
   refine ⟨_, rfl, ?_⟩
   refine wR 1 [(3, .slice o d.1.length n), (5, pB m 0), (7, .slice g c.length h), (8, iv (c.length : Int)), (9, iv d.2), (15, .slice l j.length k), (16, pB m 2)] bc (wS false 1 2 (.slice l j.length k) 2 [iv b.Guest, iv b.Goal, .slice l j.length k] ah rfl ?_)
   intro C Q
   refine W_nil (N_then (G_region (wR 1 [(3, .slice o d.1.length n), (5, pB m 0), (7, .slice g c.length h), (8, iv (c.length : Int)), (9, iv d.2), (17, .slice o d.1.length n)] C (wV (.agg #[iv b.Guest, iv b.Goal, .slice l j.length k]) C (eL true 3 0 (Q.blk 2 rfl)) ?_))))
   have ai : Mem [] w C [v, q, [(m, .cells ⟨[iv b.Guest, iv b.Goal, .slice l j.length k]⟩ 50 (0, 0))], x] := Q.pk [0, 1, 2, 3]
   have aj : Mem [] w C [v, q, [(m, .cells ⟨[iv b.Guest, iv b.Goal, .slice l j.length k]⟩ 50 (0, 0))], (x ++ [])] := ai.regroup (by simp)
   refine W_litD (D := deepBalloon) [((⟨b.Guest, b.Goal, j⟩ : Balloon), plOf [(l, k)])] [(⟨b.Guest, b.Goal, j⟩ : Balloon)] rfl 1 [iv b.Guest, iv b.Goal, .slice l j.length k] 50 aj (by kernel_rfl) (by kernel_rfl) (by kernel_rfl) (by kernel_rfl) (by kernel_rfl) (ownI_cons (i := ⟨Int, Gx.encI, _, _, _⟩) a0 ownI_nil) ?_
   intro bh ao aa bj a3 R
   obtain ⟨S, au, hm⟩ := gx_bind hm
   obtain ⟨be, ba, a7, aw⟩ := id a3
   refine W_appendD (D := deepBalloon) (us := be) (s2 := (x ++ [])) _ _ _ 40 [iv 0, iv 0, .slice none 0 0] 0 ao R U (by kernel_rfl) (by kernel_rfl) (by kernel_rfl) rfl (by kernel_rfl) (by kernel_rfl) (by kernel_rfl) (by kernel_rfl) (by kernel_rfl) (by kernel_rfl) (a7.rd R 4 (by kernel_rfl)) ba aw au ?_
   intro L H N E a4 ak
   have al : Mem [] w E [N, [(m, .cells ⟨[iv b.Guest, iv b.Goal, .slice l j.length k]⟩ 50 (0, 0))], aa, q, (x ++ [])] := ak.pk [0, 2, 4, 1, 3]
   have am : Mem [] w E [N, [(m, .cells ⟨[iv b.Guest, iv b.Goal, .slice l j.length k]⟩ 50 (0, 0))], aa, (q ++ (x ++ []))] := al.regroup (by simp)
   refine wR 1 [(3, .slice L S.length H), (7, .slice g c.length h), (8, iv (c.length : Int)), (9, iv d.2)] E (W_nil (N_block (N_then (G_region (wR 2 [(3, .slice L S.length H), (7, .slice g c.length h), (8, iv (c.length : Int)), (9, iv (w64 (d.2 + 1)))] E (W_nil ?_))))))
   obtain rfl := Option.some.inj hm
   exact N_loop fun a ha => ⟨_, rfl, L, H, N, (q ++ (x ++ [])), a4, am.pk [0, 3], ha.s⟩
  refine gF I (G_exit (N_then_exit (N_then_exit (N_block_eq ?_))))
  obtain rfl := Option.some.inj hm
  obtain rfl := a5 _ rfl
  exact N_meet fun a ha => ⟨o, n, v, q, U, y.pk [0, 1], ha.s⟩
 intro bg bd ⟨u, t, A, B, az, an, ar⟩
 refine N_use ar ?_
 have hm := ax
 refine N_then (G_seq (G_region (wR 2 [(2, .slice u z.length t)] bd (W_nil (N_then (G_ret ?_))))))
 obtain rfl := Option.some.inj hm
 exact N_ret [.slice u z.length t] (rC RVs_nil) (⟨u, t, A, B, rfl, az, an.pk [0, 1]⟩)
theorem c_i_SetGoal (w : World) (l : List Int) (n : Option Addr) (m : Nat) (S : rdS Gx.encI w l n m) (f : List Balloon) (h : Option Addr) (g : Nat) (G : rdD deepBalloon w f h g) (o : Int) (b : Int) {r : (List Balloon) × Bool} (hm : M.i_SetGoal l f o b = some r) :
  Calls Try.prog 23 #[.slice n l.length m, .slice h f.length g, iv o, iv b] w fun e w' => ∃ (H : Option Addr) (F : Nat) (I : Seg) (J : Seg), e = .returned (.tuple #[.slice H r.1.length F, .bool r.2]) ∧ ownD deepBalloon r.1 H F I J ∧ Mem [] w w' [I, J] := by
 unfold M.i_SetGoal at hm
 refine cE Try.func23 ?_
 have M0 := Mem.refl [] w
 refine G_seq (G_region (wR 2 [(0, .slice n l.length m), (1, .slice h f.length g), (2, iv o), (3, iv b)] w (W_nil (N_then (G_seq (G_region (wR 3 [(1, .slice h f.length g), (3, iv b), (14, .slice n l.length m), (15, .slice h f.length g), (16, iv o)] w ?_)))))))
 obtain ⟨c, aa, hm⟩ := gx_bind hm
 refine wC 59 #[.slice n l.length m, .slice h f.length g, iv o] ((c_i_balloonOf w l n m (S.mem0 M0) f h g (G.mem0 M0) o aa).mono ?_)
 rintro e_ t ⟨rfl, N⟩
 have E := M0.call0 N
 refine ⟨_, rfl, ?_⟩
 refine wR 5 [(1, .slice h f.length g), (3, iv b), (10, iv c.1), (11, .bool c.2)] t (W_nil (N_then (G_seq (G_seq ?_))))
 obtain ⟨ae, W, V⟩ := gx_bind hm
 refine G_meet (fun a w' => Mem [] w w' [] ∧ Sat Try.f23.ntmps [(1, .slice h f.length g), (3, iv b), (10, iv c.1), (26, .bool ae)] a) ?_ ?_
 ·have hm := W
  refine G_region (wR 3 [(1, .slice h f.length g), (3, iv b), (10, iv c.1), (22, .bool (!c.2))] t ?_)
  rcases gx_bif hm with ⟨A, hm⟩ | ⟨A, hm⟩
  ·refine wK 22 true A (wR 4 [(1, .slice h f.length g), (3, iv b), (10, iv c.1), (26, .bool true)] t (W_nil ?_))
   obtain rfl := Option.some.inj hm
   exact N_meet fun a ha => ⟨E.pk [], ha.s⟩
  refine wK 22 false A (wR 1 [(1, .slice h f.length g), (3, iv b), (10, iv c.1), (22, .bool false), (23, iv b)] t ?_)
  obtain ⟨af, ab, hm⟩ := gx_bind hm
  refine wC 51 #[iv b] ((c_i_isGoal t b ab).mono ?_)
  rintro e_ ag ⟨rfl, O⟩
  have Q := E.call0 O
  refine ⟨_, rfl, ?_⟩
  refine wR 2 [(1, .slice h f.length g), (3, iv b), (10, iv c.1), (26, .bool (!af))] ag (W_nil ?_)
  obtain rfl := Option.some.inj hm
  exact N_meet fun a ha => ⟨Q.pk [], ha.s⟩
 intro ai D ⟨x, T⟩
 refine N_use T ?_
 have hm := V
 refine N_then ?_
 rcases gx_bif hm with ⟨B, hm⟩ | ⟨B, hm⟩
 ·refine gT B (G_seq (G_region (wR 2 [(8, .slice none 0 0), (9, .bool false)] D (W_nil (N_then (G_ret (N_then_ret ?_)))))))
  obtain rfl := Option.some.inj hm
  exact N_ret [.slice none 0 0, .bool false] (rC (rC RVs_nil)) (⟨none, 0, [], [], rfl, ownD_nil, x.pk [100000, 100001]⟩)
 refine gF B (G_skip (N_then (G_seq (G_region (wR 1 [(3, iv b), (10, iv c.1), (27, .slice h f.length g)] D ?_)))))
 obtain ⟨j, ac, hm⟩ := gx_bind hm
 refine wC 60 #[.slice h f.length g] ((c_i_newBalloons D f h g (G.mem0 x) ac).mono ?_)
 rintro e_ v ⟨i, k, ak, K, rfl, X, P⟩
 have y := x.call P
 refine ⟨_, rfl, ?_⟩
 refine wR 1 [(3, iv b), (10, iv c.1), (12, .slice i j.length k)] v (W_nil (N_then (G_seq (G_region (wR 3 [(12, .slice i j.length k), (29, .slice i j.length k), (30, iv c.1), (31, iv b)] v ?_)))))
 obtain ⟨d, ad, hm⟩ := gx_bind hm
 obtain ⟨al, u, C, U⟩ := id X
 obtain ⟨z, q⟩ := gxIdx_fst u ad
 refine wV (elemP i (c.1.toNat * 3)) v (eI (C.rd y 0 (by kernel_rfl)) (len_fst u) q) (wV (elemP i (c.1.toNat * 3 + 1)) v (eF 1 (c.1.toNat * 3) 1 (C.rd y 0 (by kernel_rfl)) q) (wE false 1 c.1.toNat 1 (c.1.toNat * 3 + 1) (d, z) ((⟨d.Guest, b, d.Gave⟩ : Balloon), z) (iv b) 0 y C (gxIdx_spec q).2 ?_))
 intro ah L Y R
 have Z : ownD deepBalloon (j.set c.1.toNat (⟨d.Guest, b, d.Gave⟩ : Balloon)) i k L K := ⟨_, set_fst u c.1.toNat ((⟨d.Guest, b, d.Gave⟩ : Balloon), z), Y, (by rw [flatMap_setSame (gxIdx_spec q).2 (by kernel_rfl)]; exact U)⟩
 have aj := gxIdx_put (⟨d.Guest, b, d.Gave⟩ : Balloon) (gxIdx_down u q)
 refine wX 12 (.slice i j.length k) (.slice i (j.set c.1.toNat (⟨d.Guest, b, d.Gave⟩ : Balloon)).length k) (by rw [@List.length_set _ j c.1.toNat (⟨d.Guest, b, d.Gave⟩ : Balloon)]) (wX 29 (.slice i j.length k) (.slice i (j.set c.1.toNat (⟨d.Guest, b, d.Gave⟩ : Balloon)).length k) (by rw [@List.length_set _ j c.1.toNat (⟨d.Guest, b, d.Gave⟩ : Balloon)]) (W_nil (N_then (G_seq (G_region (wR 3 [(8, .slice i (j.set c.1.toNat (⟨d.Guest, b, d.Gave⟩ : Balloon)).length k), (9, .bool true)] ah (W_nil (N_then (G_ret ?_)))))))))
 obtain rfl := Option.some.inj hm
 exact N_ret [.slice i (j.set c.1.toNat (⟨d.Guest, b, d.Gave⟩ : Balloon)).length k, .bool true] (rC (rC RVs_nil)) (⟨i, k, L, K, rfl, Z, R.pk [0, 1]⟩)
theorem c_l_markIntS (w : World) (g : List Int) (c : Option Addr) (d : Nat) (f : Seg) (E : ownS Gx.encI g c d f) (k : Int) (hA : ∀ q ∈ List.flatten [f], w.heap[q.1]? = some q.2) (hN : (idsOf [f]).Nodup) {r : Int × (List Int)} (hm : M.l_markIntS g k = some r) :
  Calls Try.prog 24 #[.slice c g.length d, iv k] w fun e w' => ∃ (v : Seg), e = .returned (iv r.1) ∧ ownS Gx.encI r.2 c d v ∧ r.2.length = g.length ∧ Mem (idsOf [f]) w w' [v] := by
 unfold M.l_markIntS at hm
 refine cE Try.func24 ?_
 have M0 := Mem.start' w [f] hA hN
 refine G_seq (G_region (wR 1 [(0, .slice c g.length d), (1, iv k)] w (W_nil (N_then (G_seq (G_seq (G_region (wR 1 [(0, .slice c g.length d), (1, iv k), (5, iv 0)] w (W_nil (N_then ?_))))))))))
 obtain ⟨h, I, D⟩ := gx_bind hm
 refine G_meet (fun a w' => ∃ (j : Seg), ownS Gx.encI h.2 c d j ∧ h.2.length = g.length ∧ Mem (idsOf [f]) w w' [j] ∧ Sat Try.f24.ntmps [(1, iv h.1)] a) ?_ ?_
 ·refine G_block (G_while (σ := Int × Int × List Int) (ρ := Int × List Int) (fun b a w' => ∃ (i : Seg), ownS Gx.encI b.2.2 c d i ∧ b.2.2.length = g.length ∧ Mem (idsOf [f]) w w' [i] ∧ Sat Try.f24.ntmps [(0, .slice c b.2.2.length d), (1, iv b.1), (5, iv b.2.1)] a) I (fun a ha => ⟨f, E, rfl, M0.pk [0], ha.s⟩) ?_)
  clear hm
  intro b P hm H N o ⟨i, n, t, l, A⟩
  refine G_use A (G_seq (G_seq (G_region (wR 4 [(0, .slice c b.2.2.length d), (1, iv b.1), (5, iv b.2.1), (9, .bool (decide (b.2.1 < (b.2.2.length : Int))))] o (W_nil (N_then ?_))))))
  rcases gx_bif hm with ⟨m, hm⟩ | ⟨m, hm⟩
  ·refine gT m (G_skip (N_then (G_seq (G_block (G_seq (G_region (wR 3 [(0, .slice c b.2.2.length d), (1, iv b.1), (5, iv b.2.1), (12, .slice c b.2.2.length d), (13, iv b.2.1), (14, iv b.1)] o ?_)))))))
   obtain ⟨L, u, hm⟩ := gx_bind hm
   refine wV (elemP c (b.2.1.toNat * 1)) o (eI (n.rd l 0 (by kernel_rfl)) rfl u) (wE false 1 b.2.1.toNat 0 (b.2.1.toNat * 1) L b.1 (iv b.1) 0 l n (gxIdx_spec u).2 ?_)
   intro x J G y
   refine wX 0 (.slice c b.2.2.length d) (.slice c (b.2.2.set b.2.1.toNat b.1).length d) (by rw [@List.length_set _ b.2.2 b.2.1.toNat b.1]) (wX 12 (.slice c b.2.2.length d) (.slice c (b.2.2.set b.2.1.toNat b.1).length d) (by rw [@List.length_set _ b.2.2 b.2.1.toNat b.1]) (W_nil (N_then (G_region (wR 3 [(0, .slice c (b.2.2.set b.2.1.toNat b.1).length d), (1, iv (w64 (b.1 + 1))), (5, iv b.2.1)] x (W_nil (N_block (N_then (G_region (wR 3 [(0, .slice c (b.2.2.set b.2.1.toNat b.1).length d), (1, iv (w64 (b.1 + 1))), (5, iv (w64 (b.2.1 + 1)))] x (W_nil ?_)))))))))))
   obtain rfl := Option.some.inj hm
   exact N_loop fun a ha => ⟨_, rfl, J, G, (List.length_set.trans t), y.pk [0], ha.s⟩
  refine gF m (G_exit (N_then_exit (N_then_exit (N_block_eq ?_))))
  obtain rfl := Option.some.inj hm
  obtain rfl := H _ rfl
  exact N_meet fun a ha => ⟨i, n, t, l.pk [0], ha.s⟩
 intro O K ⟨j, F, C, z, B⟩
 refine N_use B ?_
 have hm := D
 refine N_then (G_seq (G_region (wR 2 [(4, iv h.1)] K (W_nil (N_then (G_ret ?_))))))
 obtain rfl := Option.some.inj hm
 exact N_ret [iv h.1] (rC RVs_nil) (⟨j, rfl, F, C, z.pk [0]⟩)
theorem c_l_markBalloonS (w : World) (n : List Balloon) (d : Option Addr) (g : Nat) (l : Seg) (m : Seg) (au : ownD deepBalloon n d g l m) (Q : Int) (hA : ∀ q ∈ List.flatten [l, m], w.heap[q.1]? = some q.2) (hN : (idsOf [l, m]).Nodup) {r : Int × (List Balloon)} (hm : M.l_markBalloonS n Q = some r) :
  Calls Try.prog 25 #[.slice d n.length g, iv Q] w fun e w' => ∃ (ab : Seg) (ac : Seg), e = .returned (iv r.1) ∧ ownD deepBalloon r.2 d g ab ac ∧ r.2.length = n.length ∧ Mem (idsOf [l, m]) w w' [ab, ac] := by
 unfold M.l_markBalloonS at hm
 refine cE Try.func25 ?_
 have M0 := Mem.start' w [l, m] hA hN
 refine G_seq (G_region (wR 1 [(0, .slice d n.length g), (1, iv Q)] w (W_nil (N_then (G_seq (G_seq (G_region (wR 1 [(0, .slice d n.length g), (1, iv Q), (5, iv 0)] w (W_nil (N_then ?_))))))))))
 obtain ⟨y, ba, ar⟩ := gx_bind hm
 refine G_meet (fun a w' => ∃ (J : Seg), ∃ (K : Seg), ownD deepBalloon y.2 d g J K ∧ y.2.length = n.length ∧ Mem (idsOf [l, m]) w w' [J, K] ∧ Sat Try.f25.ntmps [(1, iv y.1)] a) ?_ ?_
 ·refine G_block (G_while (σ := Int × Int × List Balloon) (ρ := Int × List Balloon) (fun b a w' => ∃ (I : Seg), ∃ (u : Seg), ownD deepBalloon b.2.2 d g I u ∧ b.2.2.length = n.length ∧ Mem (idsOf [l, m]) w w' [I, u] ∧ Sat Try.f25.ntmps [(0, .slice d b.2.2.length g), (1, iv b.1), (5, iv b.2.1)] a) ba (fun a ha => ⟨l, m, au, rfl, M0.pk [0, 1], ha.s⟩) ?_)
  clear hm
  intro b bo hm a5 bi N ⟨I, u, aa, Z, C, ak⟩
  refine G_use ak (G_seq (G_seq (G_region (wR 4 [(0, .slice d b.2.2.length g), (1, iv b.1), (5, iv b.2.1), (9, .bool (decide (b.2.1 < (b.2.2.length : Int))))] N (W_nil (N_then ?_))))))
  rcases gx_bif hm with ⟨V, hm⟩ | ⟨V, hm⟩
  ·refine gT V (G_skip (N_then (G_seq (G_block (G_seq (G_region (wR 3 [(0, .slice d b.2.2.length g), (1, iv b.1), (5, iv b.2.1), (12, .slice d b.2.2.length g), (13, iv b.2.1), (14, iv b.1)] N ?_)))))))
   obtain ⟨c, bb, hm⟩ := gx_bind hm
   obtain ⟨bp, F, X, an⟩ := id aa
   obtain ⟨T, v⟩ := gxIdx_fst F bb
   refine wV (elemP d (b.2.1.toNat * 3)) N (eI (X.rd C 0 (by kernel_rfl)) (len_fst F) v) (wV (elemP d (b.2.1.toNat * 3 + 0)) N (eF 0 (b.2.1.toNat * 3) 0 (X.rd C 0 (by kernel_rfl)) v) (wE false 1 b.2.1.toNat 0 (b.2.1.toNat * 3 + 0) (c, T) ((⟨b.1, c.Goal, c.Gave⟩ : Balloon), T) (iv b.1) 0 C X (gxIdx_spec v).2 ?_))
   intro O bg aw R
   have ax : ownD deepBalloon (b.2.2.set b.2.1.toNat (⟨b.1, c.Goal, c.Gave⟩ : Balloon)) d g bg u := ⟨_, set_fst F b.2.1.toNat ((⟨b.1, c.Goal, c.Gave⟩ : Balloon), T), aw, (by rw [flatMap_setSame (gxIdx_spec v).2 (by kernel_rfl)]; exact an)⟩
   have bk := gxIdx_put (⟨b.1, c.Goal, c.Gave⟩ : Balloon) (gxIdx_down F v)
   refine wX 0 (.slice d b.2.2.length g) (.slice d (b.2.2.set b.2.1.toNat (⟨b.1, c.Goal, c.Gave⟩ : Balloon)).length g) (by rw [@List.length_set _ b.2.2 b.2.1.toNat (⟨b.1, c.Goal, c.Gave⟩ : Balloon)]) (wX 12 (.slice d b.2.2.length g) (.slice d (b.2.2.set b.2.1.toNat (⟨b.1, c.Goal, c.Gave⟩ : Balloon)).length g) (by rw [@List.length_set _ b.2.2 b.2.1.toNat (⟨b.1, c.Goal, c.Gave⟩ : Balloon)]) (W_nil (N_then (G_seq (G_region (wR 3 [(0, .slice d (b.2.2.set b.2.1.toNat (⟨b.1, c.Goal, c.Gave⟩ : Balloon)).length g), (1, iv (w64 (b.1 + 1))), (5, iv b.2.1)] O (W_nil (N_then (G_seq (G_region (wR 3 [(0, .slice d (b.2.2.set b.2.1.toNat (⟨b.1, c.Goal, c.Gave⟩ : Balloon)).length g), (1, iv (w64 (b.1 + 1))), (5, iv b.2.1), (19, .slice d (b.2.2.set b.2.1.toNat (⟨b.1, c.Goal, c.Gave⟩ : Balloon)).length g), (20, iv b.2.1), (21, iv (w64 (b.1 + 1)))] O ?_)))))))))))
   obtain ⟨f, bc, hm⟩ := gx_bind hm
   obtain ⟨bq, G, Y, ao⟩ := id ax
   obtain ⟨U, x⟩ := gxIdx_fst G bc
   refine wV (elemP d (b.2.1.toNat * 3)) O (eI (Y.rd R 0 (by kernel_rfl)) (len_fst G) x) (wV (elemP d (b.2.1.toNat * 3 + 1)) O (eF 1 (b.2.1.toNat * 3) 1 (Y.rd R 0 (by kernel_rfl)) x) (wE false 1 b.2.1.toNat 1 (b.2.1.toNat * 3 + 1) (f, U) ((⟨f.Guest, w64 (b.1 + 1), f.Gave⟩ : Balloon), U) (iv (w64 (b.1 + 1))) 0 R Y (gxIdx_spec x).2 ?_))
   intro o B ay D
   have az : ownD deepBalloon ((b.2.2.set b.2.1.toNat (⟨b.1, c.Goal, c.Gave⟩ : Balloon)).set b.2.1.toNat (⟨f.Guest, w64 (b.1 + 1), f.Gave⟩ : Balloon)) d g B u := ⟨_, set_fst G b.2.1.toNat ((⟨f.Guest, w64 (b.1 + 1), f.Gave⟩ : Balloon), U), ay, (by rw [flatMap_setSame (gxIdx_spec x).2 (by kernel_rfl)]; exact ao)⟩
   have bl := gxIdx_put (⟨f.Guest, w64 (b.1 + 1), f.Gave⟩ : Balloon) (gxIdx_down G x)
   refine wX 0 (.slice d (b.2.2.set b.2.1.toNat (⟨b.1, c.Goal, c.Gave⟩ : Balloon)).length g) (.slice d ((b.2.2.set b.2.1.toNat (⟨b.1, c.Goal, c.Gave⟩ : Balloon)).set b.2.1.toNat (⟨f.Guest, w64 (b.1 + 1), f.Gave⟩ : Balloon)).length g) (by rw [@List.length_set _ (b.2.2.set b.2.1.toNat (⟨b.1, c.Goal, c.Gave⟩ : Balloon)) b.2.1.toNat (⟨f.Guest, w64 (b.1 + 1), f.Gave⟩ : Balloon)]) (wX 19 (.slice d (b.2.2.set b.2.1.toNat (⟨b.1, c.Goal, c.Gave⟩ : Balloon)).length g) (.slice d ((b.2.2.set b.2.1.toNat (⟨b.1, c.Goal, c.Gave⟩ : Balloon)).set b.2.1.toNat (⟨f.Guest, w64 (b.1 + 1), f.Gave⟩ : Balloon)).length g) (by rw [@List.length_set _ (b.2.2.set b.2.1.toNat (⟨b.1, c.Goal, c.Gave⟩ : Balloon)) b.2.1.toNat (⟨f.Guest, w64 (b.1 + 1), f.Gave⟩ : Balloon)]) (W_nil (N_then (G_seq (G_region (wR 3 [(0, .slice d ((b.2.2.set b.2.1.toNat (⟨b.1, c.Goal, c.Gave⟩ : Balloon)).set b.2.1.toNat (⟨f.Guest, w64 (b.1 + 1), f.Gave⟩ : Balloon)).length g), (1, iv (w64 ((w64 (b.1 + 1)) + 1))), (5, iv b.2.1)] o (W_nil (N_then (G_region (wR 2 [(0, .slice d ((b.2.2.set b.2.1.toNat (⟨b.1, c.Goal, c.Gave⟩ : Balloon)).set b.2.1.toNat (⟨f.Guest, w64 (b.1 + 1), f.Gave⟩ : Balloon)).length g), (1, iv (w64 ((w64 (b.1 + 1)) + 1))), (5, iv b.2.1), (26, .slice d ((b.2.2.set b.2.1.toNat (⟨b.1, c.Goal, c.Gave⟩ : Balloon)).set b.2.1.toNat (⟨f.Guest, w64 (b.1 + 1), f.Gave⟩ : Balloon)).length g), (27, iv b.2.1)] o ?_))))))))))
   obtain ⟨h, bd, hm⟩ := gx_bind hm
   obtain ⟨br, H, E, ap⟩ := id az
   obtain ⟨j, t⟩ := gxIdx_fst H bd
   refine wV (elemP d (b.2.1.toNat * 3)) o (eI (E.rd D 0 (by kernel_rfl)) (len_fst H) t) (wV (elemP d (b.2.1.toNat * 3 + 2)) o (eF 2 (b.2.1.toNat * 3) 2 (E.rd D 0 (by kernel_rfl)) t) (wV (.slice ((j 0).1) h.Gave.length ((j 0).2)) o (eE false 1 2 (b.2.1.toNat * 3 + 2) (E.rd D 0 (by kernel_rfl)) t) (wR 1 [(0, .slice d ((b.2.2.set b.2.1.toNat (⟨b.1, c.Goal, c.Gave⟩ : Balloon)).set b.2.1.toNat (⟨f.Guest, w64 (b.1 + 1), f.Gave⟩ : Balloon)).length g), (1, iv (w64 ((w64 (b.1 + 1)) + 1))), (5, iv b.2.1), (30, .slice ((j 0).1) h.Gave.length ((j 0).2)), (31, iv (w64 ((w64 (b.1 + 1)) + 1)))] o ?_)))
   obtain ⟨z, bf, A, a8, am, a6⟩ := ap.lens (gxIdx_spec t).2
   have af := D.cut 1 (sa := z) (sb := bf) (sc := A) a8 (by kernel_rfl)
   obtain ⟨ad, be, a9, a0, bn⟩ := am
   have S := af.cut 2 (sa := []) (sb := ad) (sc := be) a9 (by kernel_rfl)
   obtain ⟨k, a7, hm⟩ := gx_bind hm
   refine wC 24 #[.slice ((j 0).1) h.Gave.length ((j 0).2), iv (w64 ((w64 (b.1 + 1)) + 1))] ((c_l_markIntS o h.Gave ((j 0).1) ((j 0).2) ad a0 (w64 ((w64 (b.1 + 1)) + 1)) (S.hasPick [4]) (S.nodupPick [4] (by kernel_rfl)) a7).mono ?_)
   rintro e_ P ⟨L, rfl, a3, W, ae⟩
   have ag := S.callF' [4] [0, 1, 2, 3, 5] (by kernel_rfl) ae
   refine ⟨_, rfl, ?_⟩
   refine wX 30 (.slice ((j 0).1) h.Gave.length ((j 0).2)) (.slice ((j 0).1) k.2.length ((j 0).2)) (by first | rw [W] | rw [W]) ?_
   have ah : Mem (idsOf [l, m]) w P [B, [], z, L, A] := ag.pk [0, 2, 1, 5, 3]
   have ai : Mem (idsOf [l, m]) w P [B, [], (z ++ ((L ++ []) ++ A))] := ah.regroup (by simp)
   have a4 : ownD deepBalloon (((b.2.2.set b.2.1.toNat (⟨b.1, c.Goal, c.Gave⟩ : Balloon)).set b.2.1.toNat (⟨f.Guest, w64 (b.1 + 1), f.Gave⟩ : Balloon)).set b.2.1.toNat (⟨h.Guest, h.Goal, k.2⟩ : Balloon)) d g B (z ++ ((L ++ []) ++ A)) := ⟨_, set_fst H b.2.1.toNat ((⟨h.Guest, h.Goal, k.2⟩ : Balloon), j), (E.setSame (z' := ((⟨h.Guest, h.Goal, k.2⟩ : Balloon), j)) (gxIdx_spec t).2 (by show ([iv h.Guest, iv h.Goal, .slice ((j 0).1) k.2.length ((j 0).2)] : List Value) = [iv h.Guest, iv h.Goal, .slice ((j 0).1) h.Gave.length ((j 0).2)]; rw [W])), a6 ((⟨h.Guest, h.Goal, k.2⟩ : Balloon), j) _ (ownI_cons (i := ⟨Int, Gx.encI, _, _, _⟩) a3 ownI_nil)⟩
   have bm := gxIdx_put (⟨h.Guest, h.Goal, k.2⟩ : Balloon) (gxIdx_down H t)
   refine wX 0 (.slice d ((b.2.2.set b.2.1.toNat (⟨b.1, c.Goal, c.Gave⟩ : Balloon)).set b.2.1.toNat (⟨f.Guest, w64 (b.1 + 1), f.Gave⟩ : Balloon)).length g) (.slice d (((b.2.2.set b.2.1.toNat (⟨b.1, c.Goal, c.Gave⟩ : Balloon)).set b.2.1.toNat (⟨f.Guest, w64 (b.1 + 1), f.Gave⟩ : Balloon)).set b.2.1.toNat (⟨h.Guest, h.Goal, k.2⟩ : Balloon)).length g) (by rw [@List.length_set _ ((b.2.2.set b.2.1.toNat (⟨b.1, c.Goal, c.Gave⟩ : Balloon)).set b.2.1.toNat (⟨f.Guest, w64 (b.1 + 1), f.Gave⟩ : Balloon)) b.2.1.toNat (⟨h.Guest, h.Goal, k.2⟩ : Balloon)]) (wR 1 [(0, .slice d (((b.2.2.set b.2.1.toNat (⟨b.1, c.Goal, c.Gave⟩ : Balloon)).set b.2.1.toNat (⟨f.Guest, w64 (b.1 + 1), f.Gave⟩ : Balloon)).set b.2.1.toNat (⟨h.Guest, h.Goal, k.2⟩ : Balloon)).length g), (1, iv k.1), (5, iv b.2.1)] P (W_nil (N_block (N_then (G_region (wR 3 [(0, .slice d (((b.2.2.set b.2.1.toNat (⟨b.1, c.Goal, c.Gave⟩ : Balloon)).set b.2.1.toNat (⟨f.Guest, w64 (b.1 + 1), f.Gave⟩ : Balloon)).set b.2.1.toNat (⟨h.Guest, h.Goal, k.2⟩ : Balloon)).length g), (1, iv k.1), (5, iv (w64 (b.2.1 + 1)))] P (W_nil ?_)))))))
   obtain rfl := Option.some.inj hm
   exact N_loop fun a ha => ⟨_, rfl, B, (z ++ ((L ++ []) ++ A)), a4, (List.length_set.trans (List.length_set.trans (List.length_set.trans Z))), ai.pk [0, 2], ha.s⟩
  refine gF V (G_exit (N_then_exit (N_then_exit (N_block_eq ?_))))
  obtain rfl := Option.some.inj hm
  obtain rfl := a5 _ rfl
  exact N_meet fun a ha => ⟨I, u, aa, Z, C.pk [0, 1], ha.s⟩
 intro bj bh ⟨J, K, av, aq, aj, al⟩
 refine N_use al ?_
 have hm := ar
 refine N_then (G_seq (G_region (wR 2 [(4, iv y.1)] bh (W_nil (N_then (G_ret ?_))))))
 obtain rfl := Option.some.inj hm
 exact N_ret [iv y.1] (rC RVs_nil) (⟨J, K, rfl, av, aq, aj.pk [0, 1]⟩)
theorem c_l_heldIntS (w : World) (c : List Int) (d : Option Addr) (f : Nat) (m : rdS Gx.encI w c d f) (j : Int) {r : Int} (hm : M.l_heldIntS c j = some r) :
  Calls Try.prog 29 #[.slice d c.length f, iv j] w fun e w' => e = .returned (iv r) ∧ Mem [] w w' [] := by
 unfold M.l_heldIntS at hm
 refine cE Try.func29 ?_
 have M0 := Mem.refl [] w
 refine G_seq (G_region (wR 1 [(0, .slice d c.length f), (1, iv j)] w (W_nil (N_then (G_seq (G_seq (G_region (wR 1 [(0, .slice d c.length f), (1, iv j), (5, iv 0)] w (W_nil (N_then ?_))))))))))
 obtain ⟨z, y, n⟩ := gx_bind hm
 refine G_meet (fun a w' => ∃ (i : Int), z = .inl i ∧ Mem [] w w' [] ∧ Sat Try.f29.ntmps [(1, iv i)] a) ?_ ?_
 ·refine G_block (G_while (σ := Int × Int) (ρ := (Int) ⊕ (Int)) (fun b a w' => Mem [] w w' [] ∧ Sat Try.f29.ntmps [(0, .slice d c.length f), (1, iv b.1), (5, iv b.2)] a) y (fun a ha => ⟨M0.pk [], ha.s⟩) ?_)
  clear hm
  intro b D hm o B g ⟨h, v⟩
  refine G_use v (G_seq (G_seq (G_region (wR 4 [(0, .slice d c.length f), (1, iv b.1), (5, iv b.2), (9, .bool (decide (b.2 < (c.length : Int))))] g (W_nil (N_then ?_))))))
  rcases gx_bif hm with ⟨k, hm⟩ | ⟨k, hm⟩
  ·refine gT k (G_skip (N_then (G_seq (G_block (G_seq (G_seq (G_region (wR 2 [(0, .slice d c.length f), (1, iv b.1), (5, iv b.2), (12, .slice d c.length f), (13, iv b.2)] g ?_))))))))
   obtain ⟨t, q, hm⟩ := gx_bind hm
   refine wV (elemP d (b.2.toNat * 1)) g (eI (m.mem0 h) rfl q) (wV (iv t) g (eE false 1 0 (b.2.toNat * 1) (m.mem0 h) q) (wR 2 [(0, .slice d c.length f), (1, iv b.1), (5, iv b.2), (17, .bool (t != b.1))] g (W_nil (N_then ?_))))
   rcases gx_bif hm with ⟨l, hm⟩ | ⟨l, hm⟩
   ·refine gT l (G_seq (G_region (wR 1 [(4, iv (-1))] g (W_nil (N_then (G_ret (N_then_ret (N_block_ret (N_then_ret (N_then_ret ?_))))))))))
    obtain rfl := Option.some.inj hm
    obtain rfl := o _ rfl
    have hm := n; simp only [Sum.elim_inr] at hm
    refine N_block_ret (N_meet_ret (N_then_ret ?_))
    obtain rfl := Option.some.inj hm
    exact N_ret [iv (-1)] (rC RVs_nil) (⟨rfl, h.pk []⟩)
   refine gF l (G_skip (N_then (G_region (wR 3 [(0, .slice d c.length f), (1, iv (w64 (b.1 + 1))), (5, iv b.2)] g (W_nil (N_block (N_then (G_region (wR 3 [(0, .slice d c.length f), (1, iv (w64 (b.1 + 1))), (5, iv (w64 (b.2 + 1)))] g (W_nil ?_))))))))))
   obtain rfl := Option.some.inj hm
   exact N_loop fun a ha => ⟨_, rfl, h.pk [], ha.s⟩
  refine gF k (G_exit (N_then_exit (N_then_exit (N_block_eq ?_))))
  obtain rfl := Option.some.inj hm
  obtain rfl := o _ rfl
  exact N_meet fun a ha => ⟨_, rfl, h.pk [], ha.s⟩
 intro C A ⟨i, hout_, u, x⟩
 refine N_use x ?_
 subst hout_
 have hm := n; simp only [Sum.elim_inl] at hm
 refine N_then (G_seq (G_region (wR 2 [(4, iv i)] A (W_nil (N_then (G_ret ?_))))))
 obtain rfl := Option.some.inj hm
 exact N_ret [iv i] (rC RVs_nil) (⟨rfl, u.pk []⟩)
theorem c_l_heldBalloonS (w : World) (d : List Balloon) (c : Option Addr) (g : Nat) (I : rdD deepBalloon w d c g) (v : Int) {r : Int} (hm : M.l_heldBalloonS d v = some r) :
  Calls Try.prog 26 #[.slice c d.length g, iv v] w fun e w' => e = .returned (iv r) ∧ Mem [] w w' [] := by
 unfold M.l_heldBalloonS at hm
 refine cE Try.func26 ?_
 have M0 := Mem.refl [] w
 refine G_seq (G_region (wR 1 [(0, .slice c d.length g), (1, iv v)] w (W_nil (N_then (G_seq (G_seq (G_region (wR 1 [(0, .slice c d.length g), (1, iv v), (5, iv 0)] w (W_nil (N_then ?_))))))))))
 obtain ⟨S, O, o⟩ := gx_bind hm
 refine G_meet (fun a w' => ∃ (l : Int), S = .inl l ∧ Mem [] w w' [] ∧ Sat Try.f26.ntmps [(1, iv l)] a) ?_ ?_
 ·refine G_block (G_while (σ := Int × Int) (ρ := (Int) ⊕ (Int)) (fun b a w' => Mem [] w w' [] ∧ Sat Try.f26.ntmps [(0, .slice c d.length g), (1, iv b.1), (5, iv b.2)] a) O (fun a ha => ⟨M0.pk [], ha.s⟩) ?_)
  clear hm
  intro b Y hm q U f ⟨h, J⟩
  refine G_use J (G_seq (G_seq (G_region (wR 4 [(0, .slice c d.length g), (1, iv b.1), (5, iv b.2), (9, .bool (decide (b.2 < (d.length : Int))))] f (W_nil (N_then ?_))))))
  rcases gx_bif hm with ⟨x, hm⟩ | ⟨x, hm⟩
  ·refine gT x (G_skip (N_then (G_seq (G_block (G_seq (G_seq (G_region (wR 2 [(0, .slice c d.length g), (1, iv b.1), (5, iv b.2), (12, .slice c d.length g), (13, iv b.2)] f ?_))))))))
   obtain ⟨E, P, hm⟩ := gx_bind hm
   obtain ⟨Z, k, j, L⟩ := id I
   obtain ⟨W, B⟩ := gxIdx_fst k P
   refine wV (elemP c (b.2.toNat * 3)) f (eI (j.mem0 h) (len_fst k) B) (wV (elemP c (b.2.toNat * 3 + 0)) f (eF 0 (b.2.toNat * 3) 0 (j.mem0 h) B) (wV (iv E.Guest) f (eE false 1 0 (b.2.toNat * 3 + 0) (j.mem0 h) B) (wR 2 [(0, .slice c d.length g), (1, iv b.1), (5, iv b.2), (18, .bool (E.Guest != b.1))] f (W_nil (N_then ?_)))))
   rcases gx_bif hm with ⟨y, hm⟩ | ⟨y, hm⟩
   ·refine gT y (G_seq (G_region (wR 1 [(4, iv (-1))] f (W_nil (N_then (G_ret (N_then_ret (N_block_ret (N_then_ret (N_then_ret ?_))))))))))
    obtain rfl := Option.some.inj hm
    obtain rfl := q _ rfl
    have hm := o; simp only [Sum.elim_inr] at hm
    refine N_block_ret (N_meet_ret (N_then_ret ?_))
    obtain rfl := Option.some.inj hm
    exact N_ret [iv (-1)] (rC RVs_nil) (⟨rfl, h.pk []⟩)
   refine gF y (G_skip (N_then (G_seq (G_region (wR 3 [(0, .slice c d.length g), (1, iv (w64 (b.1 + 1))), (5, iv b.2)] f (W_nil (N_then (G_seq (G_seq (G_region (wR 2 [(0, .slice c d.length g), (1, iv (w64 (b.1 + 1))), (5, iv b.2), (21, .slice c d.length g), (22, iv b.2)] f ?_)))))))))))
   obtain ⟨F, Q, hm⟩ := gx_bind hm
   obtain ⟨X, C⟩ := gxIdx_fst k Q
   refine wV (elemP c (b.2.toNat * 3)) f (eI (j.mem0 h) (len_fst k) C) (wV (elemP c (b.2.toNat * 3 + 1)) f (eF 1 (b.2.toNat * 3) 1 (j.mem0 h) C) (wV (iv F.Goal) f (eE false 1 1 (b.2.toNat * 3 + 1) (j.mem0 h) C) (wR 2 [(0, .slice c d.length g), (1, iv (w64 (b.1 + 1))), (5, iv b.2), (27, .bool (F.Goal != (w64 (b.1 + 1))))] f (W_nil (N_then ?_)))))
   rcases gx_bif hm with ⟨z, hm⟩ | ⟨z, hm⟩
   ·refine gT z (G_seq (G_region (wR 1 [(4, iv (-1))] f (W_nil (N_then (G_ret (N_then_ret (N_block_ret (N_then_ret (N_then_ret ?_))))))))))
    obtain rfl := Option.some.inj hm
    obtain rfl := q _ rfl
    have hm := o; simp only [Sum.elim_inr] at hm
    refine N_block_ret (N_meet_ret (N_then_ret ?_))
    obtain rfl := Option.some.inj hm
    exact N_ret [iv (-1)] (rC RVs_nil) (⟨rfl, h.pk []⟩)
   refine gF z (G_skip (N_then (G_seq (G_region (wR 3 [(0, .slice c d.length g), (1, iv (w64 ((w64 (b.1 + 1)) + 1))), (5, iv b.2)] f (W_nil (N_then (G_seq (G_region (wR 2 [(0, .slice c d.length g), (1, iv (w64 ((w64 (b.1 + 1)) + 1))), (5, iv b.2), (30, .slice c d.length g), (31, iv b.2)] f ?_))))))))))
   obtain ⟨m, R, hm⟩ := gx_bind hm
   obtain ⟨i, n⟩ := gxIdx_fst k R
   refine wV (elemP c (b.2.toNat * 3)) f (eI (j.mem0 h) (len_fst k) n) (wV (elemP c (b.2.toNat * 3 + 2)) f (eF 2 (b.2.toNat * 3) 2 (j.mem0 h) n) (wV (.slice ((i 0).1) m.Gave.length ((i 0).2)) f (eE false 1 2 (b.2.toNat * 3 + 2) (j.mem0 h) n) (wR 1 [(0, .slice c d.length g), (1, iv (w64 ((w64 (b.1 + 1)) + 1))), (5, iv b.2), (34, .slice ((i 0).1) m.Gave.length ((i 0).2)), (35, iv (w64 ((w64 (b.1 + 1)) + 1)))] f ?_)))
   obtain ⟨t, N, hm⟩ := gx_bind hm
   refine wC 29 #[.slice ((i 0).1) m.Gave.length ((i 0).2), iv (w64 ((w64 (b.1 + 1)) + 1))] ((c_l_heldIntS f m.Gave ((i 0).1) ((i 0).2) ((L.mem0 h).at_ n 0 ⟨Int, Gx.encI, m.Gave, (i 0).1, (i 0).2⟩ (by kernel_rfl)) (w64 ((w64 (b.1 + 1)) + 1)) N).mono ?_)
   rintro e_ u ⟨rfl, G⟩
   have D := h.call0 G
   refine ⟨_, rfl, ?_⟩
   refine wR 1 [(0, .slice c d.length g), (1, iv t), (5, iv b.2)] u (W_nil (N_then (G_seq (G_region (wR 2 [(0, .slice c d.length g), (1, iv t), (5, iv b.2), (38, .bool (decide (t < 0)))] u (W_nil (N_then ?_)))))))
   rcases gx_bif hm with ⟨A, hm⟩ | ⟨A, hm⟩
   ·refine gT A (G_seq (G_region (wR 1 [(4, iv (-1))] u (W_nil (N_then (G_ret (N_block_ret (N_then_ret (N_then_ret ?_)))))))))
    obtain rfl := Option.some.inj hm
    obtain rfl := q _ rfl
    have hm := o; simp only [Sum.elim_inr] at hm
    refine N_block_ret (N_meet_ret (N_then_ret ?_))
    obtain rfl := Option.some.inj hm
    exact N_ret [iv (-1)] (rC RVs_nil) (⟨rfl, D.pk []⟩)
   refine gF A (G_skip (N_block (N_then (G_region (wR 3 [(0, .slice c d.length g), (1, iv t), (5, iv (w64 (b.2 + 1)))] u (W_nil ?_))))))
   obtain rfl := Option.some.inj hm
   exact N_loop fun a ha => ⟨_, rfl, D.pk [], ha.s⟩
  refine gF x (G_exit (N_then_exit (N_then_exit (N_block_eq ?_))))
  obtain rfl := Option.some.inj hm
  obtain rfl := q _ rfl
  exact N_meet fun a ha => ⟨_, rfl, h.pk [], ha.s⟩
 intro V T ⟨l, hout_, H, K⟩
 refine N_use K ?_
 subst hout_
 have hm := o; simp only [Sum.elim_inl] at hm
 refine N_then (G_seq (G_region (wR 2 [(4, iv l)] T (W_nil (N_then (G_ret ?_))))))
 obtain rfl := Option.some.inj hm
 exact N_ret [iv l] (rC RVs_nil) (⟨rfl, H.pk []⟩)
theorem c_l_FnExactSetGoal (w : World) (g : List Int) (j : Option Addr) (h : Nat) (R : rdS Gx.encI w g j h) (c : List Balloon) (f : Option Addr) (d : Nat) (F : rdD deepBalloon w c f d) (l : Int) (m : Int) {r : Bool} (hm : M.l_FnExactSetGoal g c l m = some r) :
  Calls Try.prog 5 #[.slice j g.length h, .slice f c.length d, iv l, iv m] w fun e w' => e = .returned (.bool r) ∧ Mem [] w w' [] := by
 unfold M.l_FnExactSetGoal at hm
 refine cE Try.func5 ?_
 have M0 := Mem.refl [] w
 refine G_seq (G_region (wR 1 [(0, .slice j g.length h), (1, .slice f c.length d), (2, iv l), (3, iv m)] w (W_nil (N_then (G_seq (G_seq (G_region (wR 3 [(0, .slice j g.length h), (1, .slice f c.length d), (2, iv l), (3, iv m), (23, .bool (decide ((g.length : Int) > 1048576)))] w (W_nil (N_then ?_))))))))))
 rcases gx_bif hm with ⟨av, hm⟩ | ⟨av, hm⟩
 ·refine gT av (G_seq (G_region (wR 1 [(8, .bool true)] w (W_nil (N_then (G_ret (N_then_ret ?_)))))))
  obtain rfl := Option.some.inj hm
  exact N_ret [.bool true] (rC RVs_nil) (⟨rfl, M0.pk []⟩)
 refine gF av (G_skip (N_then (G_seq (G_region (wR 1 [(0, .slice j g.length h), (1, .slice f c.length d), (2, iv l), (3, iv m), (9, iv 1048576)] w (W_nil (N_then (G_seq (G_region (wR 2 [(0, .slice j g.length h), (1, .slice f c.length d), (2, iv l), (3, iv m), (9, iv 1048576), (24, .slice f c.length d), (25, iv 1048576)] w ?_))))))))))
 obtain ⟨cd, ds, hm⟩ := gx_bind hm
 refine wC 13 #[.slice f c.length d, iv 1048576] ((c_l_szBalloonS w c f d (F.mem0 M0) 1048576 ds).mono ?_)
 rintro e_ G ⟨rfl, cp⟩
 have ae := M0.call0 cp
 refine ⟨_, rfl, ?_⟩
 refine wR 1 [(0, .slice j g.length h), (1, .slice f c.length d), (2, iv l), (3, iv m), (9, iv cd)] G (W_nil (N_then (G_seq (G_seq (G_region (wR 2 [(0, .slice j g.length h), (1, .slice f c.length d), (2, iv l), (3, iv m), (28, .bool (decide (cd < 0)))] G (W_nil (N_then ?_))))))))
 rcases gx_bif hm with ⟨aw, hm⟩ | ⟨aw, hm⟩
 ·refine gT aw (G_seq (G_region (wR 1 [(8, .bool true)] G (W_nil (N_then (G_ret (N_then_ret ?_)))))))
  obtain rfl := Option.some.inj hm
  exact N_ret [.bool true] (rC RVs_nil) (⟨rfl, ae.pk []⟩)
 refine gF aw (G_skip (N_then (G_seq (G_region (wR 1 [(0, .slice j g.length h), (1, .slice f c.length d), (2, iv l), (3, iv m), (30, .slice j g.length h)] G ?_)))))
 obtain ⟨W, dt, hm⟩ := gx_bind hm
 refine wC 15 #[.slice j g.length h] ((c_l_toIntS G g j h (R.mem0 ae) dt).mono ?_)
 rintro e_ cl ⟨T, O, ew, rfl, dh, cq⟩
 have bx := ae.call cq
 refine ⟨_, rfl, ?_⟩
 refine wR 1 [(0, .slice j g.length h), (1, .slice f c.length d), (2, iv l), (3, iv m), (31, .slice T W.length O), (32, .slice f c.length d)] cl ?_
 obtain ⟨bi, du, hm⟩ := gx_bind hm
 refine wC 16 #[.slice f c.length d] ((c_l_toBalloonS cl c f d (F.mem0 bx) du).mono ?_)
 rintro e_ cm ⟨bg, ar, ex, ey, rfl, di, cr⟩
 have af := bx.call cr
 refine ⟨_, rfl, ?_⟩
 refine wR 2 [(0, .slice j g.length h), (1, .slice f c.length d), (2, iv l), (3, iv m), (31, .slice T W.length O), (33, .slice bg bi.length ar), (34, iv l), (35, iv m)] cm ?_
 obtain ⟨b, dv, hm⟩ := gx_bind hm
 refine wC 22 #[.slice T W.length O, .slice bg bi.length ar, iv l, iv m] ((c_s_SetGoal cm W T O (dh.rd af 0 (by kernel_rfl)) bi bg ar (di.rd af 1 (by kernel_rfl) 2 (by kernel_rfl)) l m dv).mono ?_)
 rintro e_ bn ⟨q, o, cg, ch, rfl, bc, cs⟩
 have bz := af.call cs
 refine ⟨_, rfl, ?_⟩
 refine wR 5 [(0, .slice j g.length h), (1, .slice f c.length d), (2, iv l), (3, iv m), (10, .slice q b.1.length o), (11, .bool b.2)] bn (W_nil (N_then (G_seq (G_region (wR 1 [(0, .slice j g.length h), (1, .slice f c.length d), (2, iv l), (3, iv m), (10, .slice q b.1.length o), (11, .bool b.2), (39, .slice j g.length h)] bn ?_)))))
 obtain ⟨z, dw, hm⟩ := gx_bind hm
 refine wC 15 #[.slice j g.length h] ((c_l_toIntS bn g j h (R.mem0 bz) dw).mono ?_)
 rintro e_ bo ⟨x, u, ci, rfl, bd, ct⟩
 have b0 := bz.call ct
 refine ⟨_, rfl, ?_⟩
 refine wR 1 [(0, .slice j g.length h), (1, .slice f c.length d), (2, iv l), (3, iv m), (10, .slice q b.1.length o), (11, .bool b.2), (12, .slice x z.length u)] bo (W_nil (N_then (G_seq (G_region (wR 1 [(0, .slice j g.length h), (1, .slice f c.length d), (2, iv l), (3, iv m), (10, .slice q b.1.length o), (11, .bool b.2), (12, .slice x z.length u), (41, .slice f c.length d)] bo ?_)))))
 obtain ⟨A, dx, hm⟩ := gx_bind hm
 refine wC 16 #[.slice f c.length d] ((c_l_toBalloonS bo c f d (F.mem0 b0) dx).mono ?_)
 rintro e_ bp ⟨y, v, cj, ck, rfl, be, cu⟩
 have ag := b0.call cu
 refine ⟨_, rfl, ?_⟩
 refine wR 1 [(0, .slice j g.length h), (1, .slice f c.length d), (2, iv l), (3, iv m), (10, .slice q b.1.length o), (11, .bool b.2), (12, .slice x z.length u), (13, .slice y A.length v)] bp (W_nil (N_then (G_seq (G_region (wR 4 [(0, .slice j g.length h), (1, .slice f c.length d), (2, iv l), (3, iv m), (10, .slice q b.1.length o), (11, .bool b.2), (12, .slice x z.length u), (13, .slice y A.length v), (44, .slice x z.length u), (45, .slice y A.length v), (46, iv l), (47, iv m)] bp ?_)))))
 obtain ⟨n, dy, hm⟩ := gx_bind hm
 refine wC 23 #[.slice x z.length u, .slice y A.length v, iv l, iv m] ((c_i_SetGoal bp z x u (bd.rd ag 5 (by kernel_rfl)) A y v (be.rd ag 6 (by kernel_rfl) 7 (by kernel_rfl)) l m dy).mono ?_)
 rintro e_ bq ⟨k, i, bl, bm, rfl, bf, cv⟩
 have ah := ag.call cv
 refine ⟨_, rfl, ?_⟩
 refine wR 5 [(0, .slice j g.length h), (1, .slice f c.length d), (2, iv l), (3, iv m), (10, .slice q b.1.length o), (11, .bool b.2), (12, .slice x z.length u), (13, .slice y A.length v), (14, .slice k n.1.length i), (15, .bool n.2)] bq (W_nil (N_then (G_seq (G_seq ?_))))
 obtain ⟨ee, dj, de⟩ := gx_bind hm
 refine G_meet (fun a w' => Mem [] w w' [cg, ch, ci, cj, ck, bl, bm] ∧ Sat Try.f5.ntmps [(0, .slice j g.length h), (1, .slice f c.length d), (2, iv l), (3, iv m), (10, .slice q b.1.length o), (11, .bool b.2), (12, .slice x z.length u), (13, .slice y A.length v), (14, .slice k n.1.length i), (15, .bool n.2), (59, .bool ee)] a) ?_ ?_
 ·have hm := dj
  refine G_region (wR 2 [(0, .slice j g.length h), (1, .slice f c.length d), (2, iv l), (3, iv m), (10, .slice q b.1.length o), (11, .bool b.2), (12, .slice x z.length u), (13, .slice y A.length v), (14, .slice k n.1.length i), (15, .bool n.2), (51, .slice k n.1.length i), (52, .slice q b.1.length o)] bq ?_)
  obtain ⟨eh, dz, hm⟩ := gx_bind hm
  refine wC 19 #[.slice k n.1.length i, .slice q b.1.length o] ((c_l_eqBalloonS bq n.1 k i (bf.rd ah 8 (by kernel_rfl) 9 (by kernel_rfl)) b.1 q o (bc.rd ah 3 (by kernel_rfl) 4 (by kernel_rfl)) dz).mono ?_)
  rintro e_ br ⟨rfl, cw⟩
  have b1 := ah.call0 cw
  refine ⟨_, rfl, ?_⟩
  refine wR 2 [(0, .slice j g.length h), (1, .slice f c.length d), (2, iv l), (3, iv m), (10, .slice q b.1.length o), (11, .bool b.2), (12, .slice x z.length u), (13, .slice y A.length v), (14, .slice k n.1.length i), (15, .bool n.2), (55, .bool (!eh))] br ?_
  rcases gx_bif hm with ⟨ax, hm⟩ | ⟨ax, hm⟩
  ·refine wK 55 true ax (wR 4 [(0, .slice j g.length h), (1, .slice f c.length d), (2, iv l), (3, iv m), (10, .slice q b.1.length o), (11, .bool b.2), (12, .slice x z.length u), (13, .slice y A.length v), (14, .slice k n.1.length i), (15, .bool n.2), (59, .bool true)] br (W_nil ?_))
   obtain rfl := Option.some.inj hm
   exact N_meet fun a ha => ⟨b1.pk [3, 4, 5, 6, 7, 8, 9], ha.s⟩
  refine wK 55 false ax (wR 4 [(0, .slice j g.length h), (1, .slice f c.length d), (2, iv l), (3, iv m), (10, .slice q b.1.length o), (11, .bool b.2), (12, .slice x z.length u), (13, .slice y A.length v), (14, .slice k n.1.length i), (15, .bool n.2), (59, .bool (!(n.2 == b.2)))] br (W_nil ?_))
  obtain rfl := Option.some.inj hm
  exact N_meet fun a ha => ⟨b1.pk [3, 4, 5, 6, 7, 8, 9], ha.s⟩
 intro er bs ⟨ai, db⟩
 refine N_use db ?_
 have hm := de
 refine N_then ?_
 rcases gx_bif hm with ⟨ay, hm⟩ | ⟨ay, hm⟩
 ·refine gT ay (G_seq (G_region (wR 1 [(8, .bool false)] bs (W_nil (N_then (G_ret (N_then_ret ?_)))))))
  obtain rfl := Option.some.inj hm
  exact N_ret [.bool false] (rC RVs_nil) (⟨rfl, ai.pk []⟩)
 refine gF ay (G_skip (N_then (G_seq (G_seq (G_region (wR 2 [(0, .slice j g.length h), (1, .slice f c.length d), (2, iv l), (3, iv m), (10, .slice q b.1.length o), (11, .bool b.2), (12, .slice x z.length u), (13, .slice y A.length v), (14, .slice k n.1.length i), (15, .bool n.2), (60, .slice x z.length u), (61, .slice j g.length h)] bs ?_))))))
 obtain ⟨ce, d0, hm⟩ := gx_bind hm
 refine wC 15 #[.slice j g.length h] ((c_l_toIntS bs g j h (R.mem0 ai) d0).mono ?_)
 rintro e_ eo ⟨cb, b6, ez, rfl, dk, cx⟩
 have aj := ai.call cx
 refine ⟨_, rfl, ?_⟩
 obtain ⟨ei, d1, hm⟩ := gx_bind hm
 refine wC 18 #[.slice x z.length u, .slice cb ce.length b6] ((c_l_eqIntS eo z x u (bd.rd aj 2 (by kernel_rfl)) ce cb b6 (dk.rd aj 7 (by kernel_rfl)) d1).mono ?_)
 rintro e_ aa ⟨rfl, cy⟩
 have ak := aj.call0 cy
 refine ⟨_, rfl, ?_⟩
 refine wR 1 [(0, .slice j g.length h), (1, .slice f c.length d), (2, iv l), (3, iv m), (10, .slice q b.1.length o), (11, .bool b.2), (12, .slice x z.length u), (13, .slice y A.length v), (14, .slice k n.1.length i), (15, .bool n.2), (64, .bool (!ei))] aa (W_nil (N_then ?_))
 rcases gx_bif hm with ⟨az, hm⟩ | ⟨az, hm⟩
 ·refine gT az (G_seq (G_region (wR 1 [(8, .bool false)] aa (W_nil (N_then (G_ret (N_then_ret ?_)))))))
  obtain rfl := Option.some.inj hm
  exact N_ret [.bool false] (rC RVs_nil) (⟨rfl, ak.pk []⟩)
 refine gF az (G_skip (N_then (G_seq (G_seq (G_region (wR 2 [(0, .slice j g.length h), (1, .slice f c.length d), (2, iv l), (3, iv m), (10, .slice q b.1.length o), (11, .bool b.2), (12, .slice x z.length u), (13, .slice y A.length v), (14, .slice k n.1.length i), (15, .bool n.2), (65, .slice y A.length v), (66, .slice f c.length d)] aa ?_))))))
 obtain ⟨cf, d2, hm⟩ := gx_bind hm
 refine wC 16 #[.slice f c.length d] ((c_l_toBalloonS aa c f d (F.mem0 ak) d2).mono ?_)
 rintro e_ ep ⟨cc, b7, e0, e1, rfl, dl, cz⟩
 have al := ak.call cz
 refine ⟨_, rfl, ?_⟩
 obtain ⟨ej, d3, hm⟩ := gx_bind hm
 refine wC 19 #[.slice y A.length v, .slice cc cf.length b7] ((c_l_eqBalloonS ep A y v (be.rd al 3 (by kernel_rfl) 4 (by kernel_rfl)) cf cc b7 (dl.rd al 8 (by kernel_rfl) 9 (by kernel_rfl)) d3).mono ?_)
 rintro e_ H ⟨rfl, c0⟩
 have J := al.call0 c0
 refine ⟨_, rfl, ?_⟩
 refine wR 1 [(0, .slice j g.length h), (1, .slice f c.length d), (2, iv l), (3, iv m), (10, .slice q b.1.length o), (11, .bool b.2), (12, .slice x z.length u), (13, .slice y A.length v), (14, .slice k n.1.length i), (15, .bool n.2), (69, .bool (!ej))] H (W_nil (N_then ?_))
 rcases gx_bif hm with ⟨a0, hm⟩ | ⟨a0, hm⟩
 ·refine gT a0 (G_seq (G_region (wR 1 [(8, .bool false)] H (W_nil (N_then (G_ret (N_then_ret ?_)))))))
  obtain rfl := Option.some.inj hm
  exact N_ret [.bool false] (rC RVs_nil) (⟨rfl, J.pk []⟩)
 refine gF a0 (G_skip (N_then (G_seq (G_region (wR 1 [(0, .slice j g.length h), (1, .slice f c.length d), (2, iv l), (3, iv m), (10, .slice q b.1.length o), (11, .bool b.2), (12, .slice x z.length u), (13, .slice y A.length v), (14, .slice k n.1.length i), (15, .bool n.2), (16, iv 1)] H (W_nil (N_then (G_seq (G_region (wR 2 [(0, .slice j g.length h), (1, .slice f c.length d), (2, iv l), (3, iv m), (10, .slice q b.1.length o), (11, .bool b.2), (13, .slice y A.length v), (14, .slice k n.1.length i), (15, .bool n.2), (16, iv 1), (70, .slice x z.length u), (71, iv 1)] H ?_))))))))))
 obtain ⟨D, d4, hm⟩ := gx_bind hm
 refine wC 24 #[.slice x z.length u, iv 1] ((c_l_markIntS H z x u ci bd 1 (J.hasPick [2]) (J.nodupPick [2] (by kernel_rfl)) d4).mono ?_)
 rintro e_ bt ⟨e2, rfl, eu, b8, c1⟩
 have am := J.callF' [2] [0, 1, 3, 4, 5, 6, 7, 8, 9] (by kernel_rfl) c1
 refine ⟨_, rfl, ?_⟩
 refine wX 70 (.slice x z.length u) (.slice x D.2.length u) (by first | rw [b8] | rw [b8]) (wR 1 [(0, .slice j g.length h), (1, .slice f c.length d), (2, iv l), (3, iv m), (10, .slice q b.1.length o), (11, .bool b.2), (13, .slice y A.length v), (14, .slice k n.1.length i), (15, .bool n.2), (16, iv D.1)] bt (W_nil (N_then (G_seq (G_region (wR 2 [(0, .slice j g.length h), (1, .slice f c.length d), (2, iv l), (3, iv m), (10, .slice q b.1.length o), (11, .bool b.2), (14, .slice k n.1.length i), (15, .bool n.2), (16, iv D.1), (73, .slice y A.length v), (74, iv D.1)] bt ?_))))))
 obtain ⟨bj, d5, hm⟩ := gx_bind hm
 refine wC 25 #[.slice y A.length v, iv D.1] ((c_l_markBalloonS bt A y v cj ck be D.1 (am.hasPick [2, 3]) (am.nodupPick [2, 3] (by kernel_rfl)) d5).mono ?_)
 rintro e_ I ⟨e3, e4, rfl, ev, b9, c2⟩
 have K := am.callF' [2, 3] [0, 1, 4, 5, 6, 7, 8, 9] (by kernel_rfl) c2
 refine ⟨_, rfl, ?_⟩
 refine wX 73 (.slice y A.length v) (.slice y bj.2.length v) (by first | rw [b9] | rw [b9]) (wR 1 [(0, .slice j g.length h), (1, .slice f c.length d), (2, iv l), (3, iv m), (10, .slice q b.1.length o), (11, .bool b.2), (14, .slice k n.1.length i), (15, .bool n.2), (16, iv bj.1)] I (W_nil (N_then (G_seq (G_seq ?_)))))
 obtain ⟨ef, dm, df⟩ := gx_bind hm
 refine G_meet (fun a w' => Mem [] w w' [cg, ch, bl, bm] ∧ Sat Try.f5.ntmps [(0, .slice j g.length h), (1, .slice f c.length d), (2, iv l), (3, iv m), (10, .slice q b.1.length o), (11, .bool b.2), (14, .slice k n.1.length i), (88, .bool ef)] a) ?_ ?_
 ·have hm := dm
  refine G_region (wR 3 [(0, .slice j g.length h), (1, .slice f c.length d), (2, iv l), (3, iv m), (10, .slice q b.1.length o), (11, .bool b.2), (14, .slice k n.1.length i), (15, .bool n.2), (78, .bool (decide (bj.1 < 0)))] I ?_)
  rcases gx_bif hm with ⟨a3, hm⟩ | ⟨a3, hm⟩
  ·refine wK 78 true a3 (wR 10 [(0, .slice j g.length h), (1, .slice f c.length d), (2, iv l), (3, iv m), (10, .slice q b.1.length o), (11, .bool b.2), (14, .slice k n.1.length i), (88, .bool true)] I (W_nil ?_))
   obtain rfl := Option.some.inj hm
   exact N_meet fun a ha => ⟨K.pk [0, 1, 2, 3], ha.s⟩
  refine wK 78 false a3 (wR 2 [(0, .slice j g.length h), (1, .slice f c.length d), (2, iv l), (3, iv m), (10, .slice q b.1.length o), (11, .bool b.2), (14, .slice k n.1.length i), (15, .bool n.2), (78, .bool false), (79, .slice k n.1.length i), (80, .slice q b.1.length o)] I ?_)
  obtain ⟨ek, d6, hm⟩ := gx_bind hm
  refine wC 19 #[.slice k n.1.length i, .slice q b.1.length o] ((c_l_eqBalloonS I n.1 k i (bf.rd K 2 (by kernel_rfl) 3 (by kernel_rfl)) b.1 q o (bc.rd K 0 (by kernel_rfl) 1 (by kernel_rfl)) d6).mono ?_)
  rintro e_ bu ⟨rfl, c3⟩
  have b2 := K.call0 c3
  refine ⟨_, rfl, ?_⟩
  refine wR 3 [(0, .slice j g.length h), (1, .slice f c.length d), (2, iv l), (3, iv m), (10, .slice q b.1.length o), (11, .bool b.2), (14, .slice k n.1.length i), (15, .bool n.2), (84, .bool (!ek))] bu ?_
  rcases gx_bif hm with ⟨a4, hm⟩ | ⟨a4, hm⟩
  ·refine wK 84 true a4 (wR 4 [(0, .slice j g.length h), (1, .slice f c.length d), (2, iv l), (3, iv m), (10, .slice q b.1.length o), (11, .bool b.2), (14, .slice k n.1.length i), (88, .bool true)] bu (W_nil ?_))
   obtain rfl := Option.some.inj hm
   exact N_meet fun a ha => ⟨b2.pk [0, 1, 2, 3], ha.s⟩
  refine wK 84 false a4 (wR 4 [(0, .slice j g.length h), (1, .slice f c.length d), (2, iv l), (3, iv m), (10, .slice q b.1.length o), (11, .bool b.2), (14, .slice k n.1.length i), (88, .bool (!(n.2 == b.2)))] bu (W_nil ?_))
  obtain rfl := Option.some.inj hm
  exact N_meet fun a ha => ⟨b2.pk [0, 1, 2, 3], ha.s⟩
 intro es ab ⟨L, dc⟩
 refine N_use dc ?_
 have hm := df
 refine N_then ?_
 rcases gx_bif hm with ⟨a5, hm⟩ | ⟨a5, hm⟩
 ·refine gT a5 (G_seq (G_region (wR 1 [(8, .bool false)] ab (W_nil (N_then (G_ret (N_then_ret ?_)))))))
  obtain rfl := Option.some.inj hm
  exact N_ret [.bool false] (rC RVs_nil) (⟨rfl, L.pk []⟩)
 refine gF a5 (G_skip (N_then (G_seq (G_region (wR 1 [(0, .slice j g.length h), (1, .slice f c.length d), (2, iv l), (3, iv m), (10, .slice q b.1.length o), (11, .bool b.2), (14, .slice k n.1.length i), (17, iv 1)] ab (W_nil (N_then (G_seq (G_region (wR 2 [(0, .slice j g.length h), (1, .slice f c.length d), (2, iv l), (3, iv m), (10, .slice q b.1.length o), (11, .bool b.2), (14, .slice k n.1.length i), (17, iv 1), (89, .slice k n.1.length i), (90, iv 1)] ab ?_))))))))))
 obtain ⟨t, d7, hm⟩ := gx_bind hm
 refine wC 25 #[.slice k n.1.length i, iv 1] ((c_l_markBalloonS ab n.1 k i bl bm bf 1 (L.hasPick [2, 3]) (L.nodupPick [2, 3] (by kernel_rfl)) d7).mono ?_)
 rintro e_ ac ⟨em, en, rfl, ca, S, c4⟩
 have b3 := L.callF' [2, 3] [0, 1] (by kernel_rfl) c4
 refine ⟨_, rfl, ?_⟩
 refine wX 14 (.slice k n.1.length i) (.slice k t.2.length i) (by first | rw [S] | rw [S]) (wX 89 (.slice k n.1.length i) (.slice k t.2.length i) (by first | rw [S] | rw [S]) (wR 1 [(0, .slice j g.length h), (1, .slice f c.length d), (2, iv l), (3, iv m), (10, .slice q b.1.length o), (11, .bool b.2), (14, .slice k t.2.length i), (17, iv t.1)] ac (W_nil (N_then (G_seq (G_region (wR 1 [(0, .slice j g.length h), (1, .slice f c.length d), (2, iv l), (3, iv m), (10, .slice q b.1.length o), (11, .bool b.2), (14, .slice k t.2.length i), (17, iv t.1), (18, iv 1)] ac (W_nil (N_then (G_seq (G_region (wR 2 [(0, .slice j g.length h), (1, .slice f c.length d), (2, iv l), (3, iv m), (10, .slice q b.1.length o), (11, .bool b.2), (14, .slice k t.2.length i), (17, iv t.1), (18, iv 1), (92, .slice k t.2.length i), (93, iv 1)] ac ?_))))))))))))
 obtain ⟨X, d8, hm⟩ := gx_bind hm
 refine wC 26 #[.slice k t.2.length i, iv 1] ((c_l_heldBalloonS ac t.2 k i (ca.rd b3 2 (by kernel_rfl) 3 (by kernel_rfl)) 1 d8).mono ?_)
 rintro e_ C ⟨rfl, c5⟩
 have N := b3.call0 c5
 refine ⟨_, rfl, ?_⟩
 refine wR 1 [(0, .slice j g.length h), (1, .slice f c.length d), (2, iv l), (3, iv m), (10, .slice q b.1.length o), (11, .bool b.2), (14, .slice k t.2.length i), (17, iv t.1), (18, iv X)] C (W_nil (N_then (G_seq (G_seq (G_region (wR 2 [(0, .slice j g.length h), (1, .slice f c.length d), (2, iv l), (3, iv m), (10, .slice q b.1.length o), (11, .bool b.2), (14, .slice k t.2.length i), (17, iv t.1), (18, iv X), (96, .bool (decide (X < 0)))] C (W_nil (N_then ?_))))))))
 rcases gx_bif hm with ⟨a6, hm⟩ | ⟨a6, hm⟩
 ·refine gT a6 (G_seq (G_region (wR 1 [(8, .bool false)] C (W_nil (N_then (G_ret (N_then_ret ?_)))))))
  obtain rfl := Option.some.inj hm
  exact N_ret [.bool false] (rC RVs_nil) (⟨rfl, N.pk []⟩)
 refine gF a6 (G_skip (N_then (G_seq (G_seq (G_region (wR 3 [(0, .slice j g.length h), (1, .slice f c.length d), (2, iv l), (3, iv m), (10, .slice q b.1.length o), (11, .bool b.2), (14, .slice k t.2.length i), (17, iv t.1), (99, .bool (X != t.1))] C (W_nil (N_then ?_))))))))
 rcases gx_bif hm with ⟨a7, hm⟩ | ⟨a7, hm⟩
 ·refine gT a7 (G_seq (G_region (wR 1 [(8, .bool false)] C (W_nil (N_then (G_ret (N_then_ret ?_)))))))
  obtain rfl := Option.some.inj hm
  exact N_ret [.bool false] (rC RVs_nil) (⟨rfl, N.pk []⟩)
 refine gF a7 (G_skip (N_then (G_seq (G_region (wR 1 [(1, .slice f c.length d), (2, iv l), (3, iv m), (10, .slice q b.1.length o), (11, .bool b.2), (14, .slice k t.2.length i), (17, iv t.1), (101, .slice j g.length h)] C ?_)))))
 obtain ⟨Y, d9, hm⟩ := gx_bind hm
 refine wC 15 #[.slice j g.length h] ((c_l_toIntS C g j h (R.mem0 N) d9).mono ?_)
 rintro e_ cn ⟨U, P, e5, rfl, dn, c6⟩
 have b4 := N.call c6
 refine ⟨_, rfl, ?_⟩
 refine wR 1 [(2, iv l), (3, iv m), (10, .slice q b.1.length o), (11, .bool b.2), (14, .slice k t.2.length i), (17, iv t.1), (102, .slice U Y.length P), (103, .slice f c.length d)] cn ?_
 obtain ⟨bk, ea, hm⟩ := gx_bind hm
 refine wC 16 #[.slice f c.length d] ((c_l_toBalloonS cn c f d (F.mem0 b4) ea).mono ?_)
 rintro e_ co ⟨bh, au, e6, e7, rfl, dp, c7⟩
 have an := b4.call c7
 refine ⟨_, rfl, ?_⟩
 refine wR 2 [(10, .slice q b.1.length o), (11, .bool b.2), (14, .slice k t.2.length i), (17, iv t.1), (102, .slice U Y.length P), (104, .slice bh bk.length au), (105, iv l), (106, iv m)] co ?_
 obtain ⟨B, eb, hm⟩ := gx_bind hm
 refine wC 23 #[.slice U Y.length P, .slice bh bk.length au, iv l, iv m] ((c_i_SetGoal co Y U P (dn.rd an 4 (by kernel_rfl)) bk bh au (dp.rd an 5 (by kernel_rfl) 6 (by kernel_rfl)) l m eb).mono ?_)
 rintro e_ bv ⟨V, Q, e8, e9, rfl, dq, c8⟩
 have ao := an.call c8
 refine ⟨_, rfl, ?_⟩
 refine wR 5 [(10, .slice q b.1.length o), (11, .bool b.2), (14, .slice k t.2.length i), (17, iv t.1), (19, .slice V B.1.length Q), (20, .bool B.2)] bv (W_nil (N_then (G_seq (G_seq ?_))))
 obtain ⟨eg, dr, dg⟩ := gx_bind hm
 refine G_meet (fun a w' => Mem [] w w' [em, en] ∧ Sat Try.f5.ntmps [(14, .slice k t.2.length i), (17, iv t.1), (118, .bool eg)] a) ?_ ?_
 ·have hm := dr
  refine G_region (wR 2 [(11, .bool b.2), (14, .slice k t.2.length i), (17, iv t.1), (20, .bool B.2), (110, .slice V B.1.length Q), (111, .slice q b.1.length o)] bv ?_)
  obtain ⟨el, ec, hm⟩ := gx_bind hm
  refine wC 19 #[.slice V B.1.length Q, .slice q b.1.length o] ((c_l_eqBalloonS bv B.1 V Q (dq.rd ao 7 (by kernel_rfl) 8 (by kernel_rfl)) b.1 q o (bc.rd ao 0 (by kernel_rfl) 1 (by kernel_rfl)) ec).mono ?_)
  rintro e_ bw ⟨rfl, c9⟩
  have b5 := ao.call0 c9
  refine ⟨_, rfl, ?_⟩
  refine wR 2 [(11, .bool b.2), (14, .slice k t.2.length i), (17, iv t.1), (20, .bool B.2), (114, .bool (!el))] bw ?_
  rcases gx_bif hm with ⟨a8, hm⟩ | ⟨a8, hm⟩
  ·refine wK 114 true a8 (wR 4 [(14, .slice k t.2.length i), (17, iv t.1), (118, .bool true)] bw (W_nil ?_))
   obtain rfl := Option.some.inj hm
   exact N_meet fun a ha => ⟨b5.pk [2, 3], ha.s⟩
  refine wK 114 false a8 (wR 4 [(14, .slice k t.2.length i), (17, iv t.1), (118, .bool (!(B.2 == b.2)))] bw (W_nil ?_))
  obtain rfl := Option.some.inj hm
  exact N_meet fun a ha => ⟨b5.pk [2, 3], ha.s⟩
 intro et ad ⟨ap, dd⟩
 refine N_use dd ?_
 have hm := dg
 refine N_then ?_
 rcases gx_bif hm with ⟨a9, hm⟩ | ⟨a9, hm⟩
 ·refine gT a9 (G_seq (G_region (wR 1 [(8, .bool false)] ad (W_nil (N_then (G_ret (N_then_ret ?_)))))))
  obtain rfl := Option.some.inj hm
  exact N_ret [.bool false] (rC RVs_nil) (⟨rfl, ap.pk []⟩)
 refine gF a9 (G_skip (N_then (G_seq (G_region (wR 1 [(14, .slice k t.2.length i), (17, iv t.1), (18, iv 1)] ad (W_nil (N_then (G_seq (G_region (wR 2 [(17, iv t.1), (18, iv 1), (119, .slice k t.2.length i), (120, iv 1)] ad ?_))))))))))
 obtain ⟨Z, ed, hm⟩ := gx_bind hm
 refine wC 26 #[.slice k t.2.length i, iv 1] ((c_l_heldBalloonS ad t.2 k i (ca.rd ap 0 (by kernel_rfl) 1 (by kernel_rfl)) 1 ed).mono ?_)
 rintro e_ E ⟨rfl, da⟩
 have aq := ap.call0 da
 refine ⟨_, rfl, ?_⟩
 refine wR 1 [(17, iv t.1), (18, iv Z)] E (W_nil (N_then (G_seq (G_seq (G_region (wR 2 [(17, iv t.1), (18, iv Z), (123, .bool (decide (Z < 0)))] E (W_nil (N_then ?_))))))))
 rcases gx_bif hm with ⟨ba, hm⟩ | ⟨ba, hm⟩
 ·refine gT ba (G_seq (G_region (wR 1 [(8, .bool false)] E (W_nil (N_then (G_ret (N_then_ret ?_)))))))
  obtain rfl := Option.some.inj hm
  exact N_ret [.bool false] (rC RVs_nil) (⟨rfl, aq.pk []⟩)
 refine gF ba (G_skip (N_then (G_seq (G_seq (G_region (wR 3 [(126, .bool (Z != t.1))] E (W_nil (N_then ?_))))))))
 rcases gx_bif hm with ⟨bb, hm⟩ | ⟨bb, hm⟩
 ·refine gT bb (G_seq (G_region (wR 1 [(8, .bool false)] E (W_nil (N_then (G_ret (N_then_ret ?_)))))))
  obtain rfl := Option.some.inj hm
  exact N_ret [.bool false] (rC RVs_nil) (⟨rfl, aq.pk []⟩)
 refine gF bb (G_skip (N_then (G_seq (G_region (wR 1 [(8, .bool true)] E (W_nil (N_then (G_ret ?_))))))))
 obtain rfl := Option.some.inj hm
 exact N_ret [.bool true] (rC RVs_nil) (⟨rfl, aq.pk []⟩)
theorem c_s_l18Owner (w : World) (g : List Int) (i : Option Addr) (h : Nat) (v : rdS Gx.encI w g i h) (a : Int) (b : Int) {r : (List Int)} (hm : M.s_l18Owner g a b = some r) :
  Calls Try.prog 61 #[.slice i g.length h, iv a, iv b] w fun e w' => ∃ (o : Option Addr) (l : Nat) (q : Seg), e = .returned (.slice o r.length l) ∧ ownS Gx.encI r o l q ∧ Mem [] w w' [q] := by
 unfold M.s_l18Owner at hm
 refine cE Try.func61 ?_
 have M0 := Mem.refl [] w
 refine G_seq (G_region (wR 1 [(0, .slice i g.length h), (1, iv a), (2, iv b)] w (W_nil (N_then (G_seq (G_region (wR 1 [(1, iv a), (2, iv b), (8, .slice i g.length h)] w ?_)))))))
 obtain ⟨d, y, hm⟩ := gx_bind hm
 refine wC 71 #[.slice i g.length h] ((c_s_l1Own w g i h (v.mem0 M0) y).mono ?_)
 rintro e_ j ⟨c, f, C, rfl, m, t⟩
 have k := M0.call t
 refine ⟨_, rfl, ?_⟩
 refine wR 1 [(1, iv a), (2, iv b), (7, .slice c d.length f)] j (W_nil (N_then (G_seq (G_region (wR 3 [(7, .slice c d.length f), (10, .slice c d.length f), (11, iv a), (12, iv b)] j ?_)))))
 obtain ⟨B, n, hm⟩ := gx_bind hm
 refine wV (elemP c (a.toNat * 1)) j (eI (m.rd k 0 (by kernel_rfl)) rfl n) (wE false 1 a.toNat 0 (a.toNat * 1) B b (iv b) 0 k m (gxIdx_spec n).2 ?_)
 intro A z x u
 refine wX 7 (.slice c d.length f) (.slice c (d.set a.toNat b).length f) (by rw [@List.length_set _ d a.toNat b]) (wX 10 (.slice c d.length f) (.slice c (d.set a.toNat b).length f) (by rw [@List.length_set _ d a.toNat b]) (W_nil (N_then (G_seq (G_region (wR 2 [(6, .slice c (d.set a.toNat b).length f)] A (W_nil (N_then (G_ret ?_)))))))))
 obtain rfl := Option.some.inj hm
 exact N_ret [.slice c (d.set a.toNat b).length f] (rC RVs_nil) (⟨c, f, z, rfl, x, u.pk [0]⟩)
theorem c_s_TakeGiven (w : World) (m : List Int) (o : Option Addr) (n : Nat) (bj : rdS Gx.encI w m o n) (g : List Balloon) (c : Option Addr) (k : Nat) (ab : rdD deepBalloon w g c k) (q : Int) {r : (List Int) × (List Balloon) × Int × Bool} (hm : M.s_TakeGiven m g q = some r) :
  Calls Try.prog 27 #[.slice o m.length n, .slice c g.length k, iv q] w fun e w' => ∃ (bs : Option Addr) (bg : Nat) (bu : Seg), ∃ (bt : Option Addr) (bh : Nat) (bv : Seg) (bw : Seg), e = .returned (.tuple #[.slice bs r.1.length bg, .slice bt r.2.1.length bh, iv r.2.2.1, .bool r.2.2.2]) ∧ ownS Gx.encI r.1 bs bg bu ∧ ownD deepBalloon r.2.1 bt bh bv bw ∧ Mem [] w w' [bu, bv, bw] := by
 unfold M.s_TakeGiven at hm
 refine cE Try.func27 ?_
 have M0 := Mem.refl [] w
 refine G_seq (G_region (wR 4 [(0, .slice o m.length n), (1, .slice c g.length k), (2, iv q)] w (W_nil (N_then (G_seq (G_region (wR 1 [(0, .slice o m.length n), (1, .slice c g.length k), (2, iv q), (10, iv (-1))] w (W_nil (N_then (G_seq (G_seq ?_)))))))))))
 obtain ⟨dh, c1, cw⟩ := gx_bind hm
 refine G_meet (fun a w' => Mem [] w w' [] ∧ Sat Try.f27.ntmps [(0, .slice o m.length n), (1, .slice c g.length k), (2, iv q), (10, iv (-1)), (19, .bool dh)] a) ?_ ?_
 ·have hm := c1
  refine G_region (wR 2 [(0, .slice o m.length n), (1, .slice c g.length k), (2, iv q), (10, iv (-1)), (13, .slice o m.length n), (14, .slice c g.length k)] w ?_)
  obtain ⟨dk, c8, hm⟩ := gx_bind hm
  refine wC 47 #[.slice o m.length n, .slice c g.length k] ((c_s_l18Good w m o n (bj.mem0 M0) g c k (ab.mem0 M0) c8).mono ?_)
  rintro e_ ad ⟨rfl, bz⟩
  have a0 := M0.call0 bz
  refine ⟨_, rfl, ?_⟩
  refine wR 1 [(0, .slice o m.length n), (1, .slice c g.length k), (2, iv q), (10, iv (-1)), (16, .bool dk)] ad ?_
  rcases gx_bif hm with ⟨ai, hm⟩ | ⟨ai, hm⟩
  ·refine wK 16 true ai (wR 1 [(0, .slice o m.length n), (1, .slice c g.length k), (2, iv q), (10, iv (-1)), (16, .bool true), (17, iv q)] ad ?_)
   obtain ⟨dl, c9, hm⟩ := gx_bind hm
   refine wC 57 #[iv q, iv 1, iv 4] ((c_s_l1In ad q 1 4 c9).mono ?_)
   rintro e_ dp ⟨rfl, b0⟩
   have b3 := a0.call0 b0
   refine ⟨_, rfl, ?_⟩
   refine wR 1 [(0, .slice o m.length n), (1, .slice c g.length k), (2, iv q), (10, iv (-1)), (19, .bool dl)] dp (W_nil ?_)
   obtain rfl := Option.some.inj hm
   exact N_meet fun a ha => ⟨b3.pk [], ha.s⟩
  refine wK 16 false ai (wR 3 [(0, .slice o m.length n), (1, .slice c g.length k), (2, iv q), (10, iv (-1)), (19, .bool false)] ad (W_nil ?_))
  obtain rfl := Option.some.inj hm
  exact N_meet fun a ha => ⟨a0.pk [], ha.s⟩
 intro eg dq ⟨a3, cq⟩
 refine N_use cq ?_
 have hm := cw
 refine N_then ?_
 obtain ⟨A, c2, cx⟩ := gx_bind hm
 refine G_meet (fun a w' => Mem [] w w' [] ∧ Sat Try.f27.ntmps [(0, .slice o m.length n), (1, .slice c g.length k), (2, iv q), (10, iv A)] a) ?_ ?_
 ·have hm := c2
  rcases gx_bif hm with ⟨aj, hm⟩ | ⟨aj, hm⟩
  ·refine gT aj (G_seq (G_region (wR 1 [(0, .slice o m.length n), (1, .slice c g.length k), (2, iv q), (10, iv (-1)), (11, iv 0)] dq (W_nil (N_then ?_)))))
   obtain ⟨dj, dc, c0⟩ := gx_bind hm
   refine G_meet (fun a w' => Mem [] w w' [] ∧ Sat Try.f27.ntmps [(0, .slice o m.length n), (1, .slice c g.length k), (2, iv q), (10, iv dj)] a) ?_ ?_
   ·refine G_block (G_while (σ := Int × Int) (ρ := Int) (fun d a w' => Mem [] w w' [] ∧ Sat Try.f27.ntmps [(0, .slice o m.length n), (1, .slice c g.length k), (2, iv q), (10, iv d.1), (11, iv d.2)] a) dc (fun a ha => ⟨a3.pk [], ha.s⟩) ?_)
    clear hm
    intro d ev hm c7 eh dr ⟨a4, cr⟩
    refine G_use cr (G_seq (G_seq (G_region (wR 4 [(0, .slice o m.length n), (1, .slice c g.length k), (2, iv q), (10, iv d.1), (11, iv d.2), (23, .bool (decide (d.2 < (g.length : Int))))] dr (W_nil (N_then ?_))))))
    rcases gx_bif hm with ⟨ak, hm⟩ | ⟨ak, hm⟩
    ·refine gT ak (G_skip (N_then (G_seq (G_block (G_seq ?_)))))
     obtain ⟨di, c3, cy⟩ := gx_bind hm
     refine G_meet (fun a w' => Mem [] w w' [] ∧ Sat Try.f27.ntmps [(0, .slice o m.length n), (1, .slice c g.length k), (2, iv q), (10, iv d.1), (11, iv d.2), (53, .bool di)] a) ?_ ?_
     ·have hm := c3
      refine G_quiet (by kernel_rfl) (by kernel_rfl) a4 (zR [.slice c g.length k, iv d.2] [(0, .slice o m.length n), (1, .slice c g.length k), (2, iv q), (10, iv d.1), (11, iv d.2), (26, .slice c g.length k), (27, iv d.2)] ?_)
      obtain ⟨X, dd, hm⟩ := gx_bind hm
      obtain ⟨ew, P, J, ac⟩ := id ab
      obtain ⟨bi, ap⟩ := gxIdx_fst P dd
      refine zV (elemP c (d.2.toNat * 3)) (fun w_ M_ => (eI (J.mem0 M_) (len_fst P) ap)) (zV (elemP c (d.2.toNat * 3 + 2)) (fun w_ M_ => (eF 2 (d.2.toNat * 3) 2 (J.mem0 M_) ap)) (zV (.slice ((bi 0).1) X.Gave.length ((bi 0).2)) (fun w_ M_ => (eE false 1 2 (d.2.toNat * 3 + 2) (J.mem0 M_) ap)) (zR [iv (X.Gave.length : Int), .bool (decide ((X.Gave.length : Int) > 0)), .bool (decide ((X.Gave.length : Int) > 0))] [(0, .slice o m.length n), (1, .slice c g.length k), (2, iv q), (10, iv d.1), (11, iv d.2), (33, .bool (decide ((X.Gave.length : Int) > 0)))] ?_)))
      rcases gx_bif hm with ⟨al, hm⟩ | ⟨al, hm⟩
      ·refine zK 33 true al (zR [iv d.1, .bool (decide (d.1 < 0)), .bool (decide (d.1 < 0))] [(0, .slice o m.length n), (1, .slice c g.length k), (2, iv q), (10, iv d.1), (11, iv d.2), (33, .bool true), (36, .bool (decide (d.1 < 0)))] ?_)
       rcases gx_bif hm with ⟨am, hm⟩ | ⟨am, hm⟩
       ·refine zK 36 true am (zR [undef, undef, undef, undef, undef, undef, undef, undef, undef, undef, undef, undef, undef, undef, undef, .bool true, .bool true] [(0, .slice o m.length n), (1, .slice c g.length k), (2, iv q), (10, iv d.1), (11, iv d.2), (53, .bool true)] (Z_end fun em b4 => ?_))
        obtain rfl := Option.some.inj hm
        exact N_meet fun a ha => ⟨b4.pk [], ha.s⟩
       refine zK 36 false am (zR [.slice c g.length k, iv d.2] [(0, .slice o m.length n), (1, .slice c g.length k), (2, iv q), (10, iv d.1), (11, iv d.2), (33, .bool true), (36, .bool false), (37, .slice c g.length k), (38, iv d.2)] ?_)
       obtain ⟨ay, de, hm⟩ := gx_bind hm
       obtain ⟨L, V⟩ := gxIdx_fst P de
       refine zV (elemP c (d.2.toNat * 3)) (fun w_ M_ => (eI (J.mem0 M_) (len_fst P) V)) (zV (elemP c (d.2.toNat * 3 + 2)) (fun w_ M_ => (eF 2 (d.2.toNat * 3) 2 (J.mem0 M_) V)) (zV (.slice ((L 0).1) ay.Gave.length ((L 0).2)) (fun w_ M_ => (eE false 1 2 (d.2.toNat * 3 + 2) (J.mem0 M_) V)) ?_))
       obtain ⟨Q, bl, hm⟩ := gx_bind hm
       refine zV (elemP ((L 0).1) ((0 : Int).toNat * 1)) (fun w_ M_ => (eI ((ac.mem0 M_).at_ V 0 ⟨Int, Gx.encI, ay.Gave, (L 0).1, (L 0).2⟩ (by kernel_rfl)) rfl bl)) (zV (iv Q) (fun w_ M_ => (eE false 1 0 ((0 : Int).toNat * 1) ((ac.mem0 M_).at_ V 0 ⟨Int, Gx.encI, ay.Gave, (L 0).1, (L 0).2⟩ (by kernel_rfl)) bl)) (zR [.slice c g.length k, iv d.1] [(0, .slice o m.length n), (1, .slice c g.length k), (2, iv q), (10, iv d.1), (11, iv d.2), (33, .bool true), (36, .bool false), (43, iv Q), (44, .slice c g.length k), (45, iv d.1)] ?_))
       obtain ⟨az, df, hm⟩ := gx_bind hm
       obtain ⟨N, W⟩ := gxIdx_fst P df
       refine zV (elemP c (d.1.toNat * 3)) (fun w_ M_ => (eI (J.mem0 M_) (len_fst P) W)) (zV (elemP c (d.1.toNat * 3 + 2)) (fun w_ M_ => (eF 2 (d.1.toNat * 3) 2 (J.mem0 M_) W)) (zV (.slice ((N 0).1) az.Gave.length ((N 0).2)) (fun w_ M_ => (eE false 1 2 (d.1.toNat * 3 + 2) (J.mem0 M_) W)) ?_))
       obtain ⟨Y, bm, hm⟩ := gx_bind hm
       refine zV (elemP ((N 0).1) ((0 : Int).toNat * 1)) (fun w_ M_ => (eI ((ac.mem0 M_).at_ W 0 ⟨Int, Gx.encI, az.Gave, (N 0).1, (N 0).2⟩ (by kernel_rfl)) rfl bm)) (zV (iv Y) (fun w_ M_ => (eE false 1 0 ((0 : Int).toNat * 1) ((ac.mem0 M_).at_ W 0 ⟨Int, Gx.encI, az.Gave, (N 0).1, (N 0).2⟩ (by kernel_rfl)) bm)) (zR [.bool (decide (Q < Y)), .bool (decide (Q < Y)), .bool (decide (Q < Y))] [(0, .slice o m.length n), (1, .slice c g.length k), (2, iv q), (10, iv d.1), (11, iv d.2), (53, .bool (decide (Q < Y)))] (Z_end fun en b5 => ?_)))
       obtain rfl := Option.some.inj hm
       exact N_meet fun a ha => ⟨b5.pk [], ha.s⟩
      refine zK 33 false al (zR [undef, undef, undef, undef, undef, undef, undef, undef, undef, undef, undef, undef, undef, undef, undef, undef, undef, undef, undef, .bool false] [(0, .slice o m.length n), (1, .slice c g.length k), (2, iv q), (10, iv d.1), (11, iv d.2), (53, .bool false)] (Z_end fun eo b6 => ?_))
      obtain rfl := Option.some.inj hm
      exact N_meet fun a ha => ⟨b6.pk [], ha.s⟩
     intro ei ds ⟨a5, cs⟩
     refine N_use cs ?_
     have hm := cy
     refine N_then ?_
     obtain ⟨br, c4, cz⟩ := gx_bind hm
     refine G_meet (fun a w' => Mem [] w w' [] ∧ Sat Try.f27.ntmps [(0, .slice o m.length n), (1, .slice c g.length k), (2, iv q), (10, iv br), (11, iv d.2)] a) ?_ ?_
     ·have hm := c4
      rcases gx_bif hm with ⟨an, hm⟩ | ⟨an, hm⟩
      ·refine gT an (G_region (wR 2 [(0, .slice o m.length n), (1, .slice c g.length k), (2, iv q), (10, iv d.2), (11, iv d.2)] ds (W_nil ?_)))
       obtain rfl := Option.some.inj hm
       exact N_meet fun a ha => ⟨a5.pk [], ha.s⟩
      refine gF an (G_skip ?_)
      obtain rfl := Option.some.inj hm
      exact N_meet fun a ha => ⟨a5.pk [], ha.s⟩
     intro ej dt ⟨b7, ct⟩
     refine N_use ct ?_
     have hm := cz
     refine N_block (N_then (G_region (wR 3 [(0, .slice o m.length n), (1, .slice c g.length k), (2, iv q), (10, iv br), (11, iv (w64 (d.2 + 1)))] dt (W_nil ?_))))
     obtain rfl := Option.some.inj hm
     exact N_loop fun a ha => ⟨_, rfl, b7.pk [], ha.s⟩
    refine gF ak (G_exit (N_then_exit (N_then_exit (N_block_eq ?_))))
    obtain rfl := Option.some.inj hm
    obtain rfl := c7 _ rfl
    exact N_meet fun a ha => ⟨a4.pk [], ha.s⟩
   intro ek ep ⟨b8, cu⟩
   refine N_use cu ?_
   have hm := c0
   obtain rfl := Option.some.inj hm
   exact N_meet fun a ha => ⟨b8.pk [], ha.s⟩
  refine gF aj (G_skip ?_)
  obtain rfl := Option.some.inj hm
  exact N_meet fun a ha => ⟨a3.pk [], ha.s⟩
 intro el ae ⟨Z, cv⟩
 refine N_use cv ?_
 have hm := cx
 refine N_then (G_seq (G_seq (G_region (wR 2 [(0, .slice o m.length n), (1, .slice c g.length k), (2, iv q), (10, iv A), (56, .bool (decide (A < 0)))] ae (W_nil (N_then ?_))))))
 rcases gx_bif hm with ⟨ao, hm⟩ | ⟨ao, hm⟩
 ·refine gT ao (G_seq (G_region (wL (E := Gx.encI) ([] : List Int) 0 [] 3 Z ?_)))
  intro au ag aw bx c5 b9
  have ca : Mem [] w bx [aw] := b9.pk [0]
  have cb : Mem [] w bx [aw, []] := ca.regroup (by simp)
  refine W_litD (D := deepBalloon) [] ([] : List Balloon) rfl 0 [] 50 cb (by kernel_rfl) (by kernel_rfl) (by kernel_rfl) (by kernel_rfl) (by kernel_rfl) ownI_nil ?_
  intro av ah dm du c6 cc
  refine wR 4 [(6, .slice au ([] : List Int).length ag), (7, .slice av ([] : List Balloon).length ah), (8, iv 0), (9, .bool false)] du (W_nil (N_then (G_ret (N_then_ret ?_))))
  obtain rfl := Option.some.inj hm
  exact N_ret [.slice au ([] : List Int).length ag, .slice av ([] : List Balloon).length ah, iv 0, .bool false] (rC (rC (rC (rC RVs_nil)))) (⟨au, ag, aw, av, ah, dm, [], rfl, c5, c6, cc.pk [0, 2, 1]⟩)
 refine gF ao (G_skip (N_then (G_seq (G_region (wR 2 [(0, .slice o m.length n), (1, .slice c g.length k), (2, iv q), (10, iv A), (59, .slice c g.length k), (60, iv A)] ae ?_)))))
 obtain ⟨l, dg, hm⟩ := gx_bind hm
 obtain ⟨ex, bq, bk, O⟩ := id ab
 obtain ⟨b, K⟩ := gxIdx_fst bq dg
 refine wV (elemP c (A.toNat * 3)) ae (eI (bk.mem0 Z) (len_fst bq) K) (wV (.agg #[iv l.Guest, iv l.Goal, .slice ((b 0).1) l.Gave.length ((b 0).2)]) ae (eE true 3 0 (A.toNat * 3) (bk.mem0 Z) K) (wN (.cells ⟨[iv 0, iv 0, .slice none 0 0]⟩ 50 (0, 0)) Z ?_))
 intro x er cd
 refine wS true 3 0 (.agg #[iv l.Guest, iv l.Goal, .slice ((b 0).1) l.Gave.length ((b 0).2)]) 0 [iv l.Guest, iv l.Goal, .slice ((b 0).1) l.Gave.length ((b 0).2)] cd rfl ?_
 intro es ce
 refine W_nil (N_then (G_seq ?_))
 obtain ⟨S, bn, hm⟩ := gx_bind hm
 obtain ⟨H, da, hm⟩ := gx_bind hm
 obtain ⟨U, bp, hm⟩ := gx_bind hm
 obtain ⟨I, db, hm⟩ := gx_bind hm
 obtain ⟨T, bo, hm⟩ := gx_bind hm
 refine G_sub [(0, .slice o m.length n), (1, .slice c g.length k), (2, iv q), (10, iv A), (12, pB x 0), (59, .slice c g.length k), (60, iv A), (61, elemP c (A.toNat * 3)), (62, .agg #[iv l.Guest, iv l.Goal, .slice ((b 0).1) l.Gave.length ((b 0).2)])] (by kernel_rfl) (G_dagL 21 [[], [], [1], [2], [3], [], [0, 4, 5], [], [], [], [9], [], [11], [12], [7, 8, 10, 13], [], [15], [16], [17], [], []] [[], [], [], [], [], [], [], [], [], [], [], [], [], [], [], [], [], [], [], [], []] [[], [], [], [], [], [], [], [], [], [], [], [], [], [], [], [], [], [], [], [], []] [[], [], [], [], [], [], [], [], [], [], [], [], [], [], [], [], [], [], [], [6], [14]] [[], [], [], [], [], [], [], [], [], [], [], [], [], [], [], [], [], [], [], [6], [14]] [[], [], [], [], [], [], [], [], [], [], [], [], [], [], [], [], [], [], [], [], []] (fun _ => []) (fun i => ([fun f v s => v = (.slice o m.length n : Value) ∧ s = [], fun f v s => v = (pB x 2 : Value) ∧ s = [], fun f v s => v = (.slice ((b 0).1) l.Gave.length ((b 0).2) : Value) ∧ s = [], fun f v s => v = (elemP ((b 0).1) ((0 : Int).toNat * 1) : Value) ∧ s = [], fun f v s => v = (iv S : Value) ∧ s = [], fun f v s => v = (iv q : Value) ∧ s = [], fun f v s => ∃ (B : Option Addr) (y : Nat), v = (.slice B H.length y : Value) ∧ ownS Gx.encI H B y s, fun f v s => v = (.slice c g.length k : Value) ∧ s = [], fun f v s => v = (iv A : Value) ∧ s = [], fun f v s => v = (pB x 1 : Value) ∧ s = [], fun f v s => v = (iv l.Goal : Value) ∧ s = [], fun f v s => v = (pB x 2 : Value) ∧ s = [], fun f v s => v = (.slice ((b 0).1) l.Gave.length ((b 0).2) : Value) ∧ s = [], fun f v s => v = (.slice (subP ((b 0).1) (1 : Int).toNat ((b 0).2) 1) U.length (((b 0).2) - (1 : Int).toNat) : Value) ∧ s = [], fun f v s => ∃ (C : Option Addr) (z : Nat) (F : Seg) (G : Seg), v = (.slice C I.length z : Value) ∧ s = (F ++ G) ∧ ownD deepBalloon I C z F G, fun f v s => v = (pB x 2 : Value) ∧ s = [], fun f v s => v = (.slice ((b 0).1) l.Gave.length ((b 0).2) : Value) ∧ s = [], fun f v s => v = (elemP ((b 0).1) ((0 : Int).toNat * 1) : Value) ∧ s = [], fun f v s => v = (iv T : Value) ∧ s = [], fun f v s => v = ((atPath (f 6) []) : Value) ∧ s = [], fun f v s => v = ((atPath (f 14) []) : Value) ∧ s = []] : List ((Nat → Value) → Value → Seg → Prop)).getD i (fun _ _ _ => False)) (fun j f v => ∃ s, (fun i => ([fun f v s => v = (.slice o m.length n : Value) ∧ s = [], fun f v s => v = (pB x 2 : Value) ∧ s = [], fun f v s => v = (.slice ((b 0).1) l.Gave.length ((b 0).2) : Value) ∧ s = [], fun f v s => v = (elemP ((b 0).1) ((0 : Int).toNat * 1) : Value) ∧ s = [], fun f v s => v = (iv S : Value) ∧ s = [], fun f v s => v = (iv q : Value) ∧ s = [], fun f v s => ∃ (B : Option Addr) (y : Nat), v = (.slice B H.length y : Value) ∧ ownS Gx.encI H B y s, fun f v s => v = (.slice c g.length k : Value) ∧ s = [], fun f v s => v = (iv A : Value) ∧ s = [], fun f v s => v = (pB x 1 : Value) ∧ s = [], fun f v s => v = (iv l.Goal : Value) ∧ s = [], fun f v s => v = (pB x 2 : Value) ∧ s = [], fun f v s => v = (.slice ((b 0).1) l.Gave.length ((b 0).2) : Value) ∧ s = [], fun f v s => v = (.slice (subP ((b 0).1) (1 : Int).toNat ((b 0).2) 1) U.length (((b 0).2) - (1 : Int).toNat) : Value) ∧ s = [], fun f v s => ∃ (C : Option Addr) (z : Nat) (F : Seg) (G : Seg), v = (.slice C I.length z : Value) ∧ s = (F ++ G) ∧ ownD deepBalloon I C z F G, fun f v s => v = (pB x 2 : Value) ∧ s = [], fun f v s => v = (.slice ((b 0).1) l.Gave.length ((b 0).2) : Value) ∧ s = [], fun f v s => v = (elemP ((b 0).1) ((0 : Int).toNat * 1) : Value) ∧ s = [], fun f v s => v = (iv T : Value) ∧ s = [], fun f v s => v = ((atPath (f 6) []) : Value) ∧ s = [], fun f v s => v = ((atPath (f 14) []) : Value) ∧ s = []] : List ((Nat → Value) → Value → Seg → Prop)).getD i (fun _ _ _ => False)) j f v s) [] [6, 14, 18, 19, 20] [6, 14] (fun _ _ _ s h => ⟨s, h⟩) (by kernel_rfl) (by kernel_rfl) (ce.preNil 21) (by kernel_rfl) (by kernel_rfl) (by kernel_rfl) (by kernel_rfl) (allOb_cons ?_ (allOb_cons ?_ (allOb_cons ?_ (allOb_cons ?_ (allOb_cons ?_ (allOb_cons ?_ (allOb_cons ?_ (allOb_cons ?_ (allOb_cons ?_ (allOb_cons ?_ (allOb_cons ?_ (allOb_cons ?_ (allOb_cons ?_ (allOb_cons ?_ (allOb_cons ?_ (allOb_cons ?_ (allOb_cons ?_ (allOb_cons ?_ (allOb_cons ?_ (allOb_cons ?_ (allOb_cons ?_ allOb_nil))))))))))))))))))))) ?_)
 ·intro t u
  intro R dv cf
  exact wR 1 [(63, .slice o m.length n)] dv (W_nil (oE (.slice o m.length n) [] ⟨by kernel_rfl, rfl⟩ cf))
 ·intro t u
  intro R dw cg
  exact wR 1 [(64, pB x 2)] dw (W_nil (oE (pB x 2) [] ⟨by kernel_rfl, rfl⟩ cg))
 ·intro t u
  intro v1_ hb1_
  obtain ⟨rfl, _⟩ := hb1_
  intro R dx a6
  exact wV (.slice ((b 0).1) l.Gave.length ((b 0).2)) dx (eL false 1 2 (a6.blk 0 rfl)) (W_nil (oE (.slice ((b 0).1) l.Gave.length ((b 0).2)) [] ⟨by kernel_rfl, rfl⟩ a6))
 ·intro t u
  intro v2_ hb2_
  obtain ⟨rfl, _⟩ := hb2_
  intro R dy a7
  exact wV (elemP ((b 0).1) ((0 : Int).toNat * 1)) dy (eI ((O.mem0 a7).at_ K 0 ⟨Int, Gx.encI, l.Gave, (b 0).1, (b 0).2⟩ (by kernel_rfl)) rfl bn) (W_nil (oE (elemP ((b 0).1) ((0 : Int).toNat * 1)) [] ⟨by kernel_rfl, rfl⟩ a7))
 ·intro t u
  intro v3_ hb3_
  obtain ⟨rfl, _⟩ := hb3_
  intro R dz a8
  exact wV (iv S) dz (eE false 1 0 ((0 : Int).toNat * 1) ((O.mem0 a8).at_ K 0 ⟨Int, Gx.encI, l.Gave, (b 0).1, (b 0).2⟩ (by kernel_rfl)) bn) (W_nil (oE (iv S) [] ⟨by kernel_rfl, rfl⟩ a8))
 ·intro t u
  intro R d0 ch
  exact wR 1 [(68, iv q)] d0 (W_nil (oE (iv q) [] ⟨by kernel_rfl, rfl⟩ ch))
 ·intro t u
  intro v0_ hb0_
  obtain ⟨rfl, _⟩ := hb0_
  intro v4_ hb4_
  obtain ⟨rfl, _⟩ := hb4_
  intro v5_ hb5_
  obtain ⟨rfl, _⟩ := hb5_
  intro R d1 a9
  refine wC 61 #[.slice o m.length n, iv S, iv q] ((c_s_l18Owner d1 m o n (bj.mem0 a9) S q da).mono ?_)
  rintro e_ et ⟨B, y, dn, rfl, aq, b1⟩
  refine ⟨_, rfl, ?_⟩
  exact W_nil (oE (.slice B H.length y) dn ⟨B, y, rfl, aq⟩ (Mem.callMid a9 b1))
 ·intro t u
  intro R d2 ci
  exact wR 1 [(70, .slice c g.length k)] d2 (W_nil (oE (.slice c g.length k) [] ⟨by kernel_rfl, rfl⟩ ci))
 ·intro t u
  intro R d3 cj
  exact wR 1 [(71, iv A)] d3 (W_nil (oE (iv A) [] ⟨by kernel_rfl, rfl⟩ cj))
 ·intro t u
  intro R d4 ck
  exact wR 1 [(72, pB x 1)] d4 (W_nil (oE (pB x 1) [] ⟨by kernel_rfl, rfl⟩ ck))
 ·intro t u
  intro v9_ hb9_
  obtain ⟨rfl, _⟩ := hb9_
  intro R d5 ba
  exact wV (iv l.Goal) d5 (eL false 1 1 (ba.blk 0 rfl)) (W_nil (oE (iv l.Goal) [] ⟨by kernel_rfl, rfl⟩ ba))
 ·intro t u
  intro R d6 cl
  exact wR 1 [(74, pB x 2)] d6 (W_nil (oE (pB x 2) [] ⟨by kernel_rfl, rfl⟩ cl))
 ·intro t u
  intro v11_ hb11_
  obtain ⟨rfl, _⟩ := hb11_
  intro R d7 bb
  exact wV (.slice ((b 0).1) l.Gave.length ((b 0).2)) d7 (eL false 1 2 (bb.blk 0 rfl)) (W_nil (oE (.slice ((b 0).1) l.Gave.length ((b 0).2)) [] ⟨by kernel_rfl, rfl⟩ bb))
 ·intro t u
  intro v12_ hb12_
  obtain ⟨rfl, _⟩ := hb12_
  intro R d8 bc
  exact wV (.slice (subP ((b 0).1) (1 : Int).toNat ((b 0).2) 1) U.length (((b 0).2) - (1 : Int).toNat)) d8 (E_slice (E := Gx.encI) _ _ _ _ l.Gave.length 1 (l.Gave.length : Int) rfl (by kernel_rfl) (Or.inr ⟨_, rfl, by kernel_rfl⟩) (Or.inl ⟨rfl, rfl⟩) (by kernel_rfl) ((O.mem0 bc).at_ K 0 ⟨Int, Gx.encI, l.Gave, (b 0).1, (b 0).2⟩ (by kernel_rfl)) rfl bp) (W_nil (oE (.slice (subP ((b 0).1) (1 : Int).toNat ((b 0).2) 1) U.length (((b 0).2) - (1 : Int).toNat)) [] ⟨by kernel_rfl, rfl⟩ bc))
 ·intro t u
  intro v7_ hb7_
  obtain ⟨rfl, _⟩ := hb7_
  intro v8_ hb8_
  obtain ⟨rfl, _⟩ := hb8_
  intro v10_ hb10_
  obtain ⟨rfl, _⟩ := hb10_
  intro v13_ hb13_
  obtain ⟨rfl, _⟩ := hb13_
  intro R d9 af
  refine wC 58 #[.slice c g.length k, iv A, iv l.Goal, .slice (subP ((b 0).1) (1 : Int).toNat ((b 0).2) 1) U.length (((b 0).2) - (1 : Int).toNat)] ((c_s_l18With d9 g c k (ab.mem0 af) A l.Goal U (subP ((b 0).1) (1 : Int).toNat ((b 0).2) 1) (((b 0).2) - (1 : Int).toNat) (((O.mem0 af).at_ K 0 ⟨Int, Gx.encI, l.Gave, (b 0).1, (b 0).2⟩ (by kernel_rfl)).sliceM bp) db).mono ?_)
  rintro e_ eu ⟨C, z, F, G, rfl, ar, b2⟩
  refine ⟨_, rfl, ?_⟩
  exact W_nil (oE (.slice C I.length z) (F ++ G) ⟨C, z, F, G, rfl, rfl, ar⟩ (Mem.callMid af (b2.permF (by simp))))
 ·intro t u
  intro R ea cm
  exact wR 1 [(78, pB x 2)] ea (W_nil (oE (pB x 2) [] ⟨by kernel_rfl, rfl⟩ cm))
 ·intro t u
  intro v15_ hb15_
  obtain ⟨rfl, _⟩ := hb15_
  intro R eb bd
  exact wV (.slice ((b 0).1) l.Gave.length ((b 0).2)) eb (eL false 1 2 (bd.blk 0 rfl)) (W_nil (oE (.slice ((b 0).1) l.Gave.length ((b 0).2)) [] ⟨by kernel_rfl, rfl⟩ bd))
 ·intro t u
  intro v16_ hb16_
  obtain ⟨rfl, _⟩ := hb16_
  intro R ec be
  exact wV (elemP ((b 0).1) ((0 : Int).toNat * 1)) ec (eI ((O.mem0 be).at_ K 0 ⟨Int, Gx.encI, l.Gave, (b 0).1, (b 0).2⟩ (by kernel_rfl)) rfl bo) (W_nil (oE (elemP ((b 0).1) ((0 : Int).toNat * 1)) [] ⟨by kernel_rfl, rfl⟩ be))
 ·intro t u
  intro v17_ hb17_
  obtain ⟨rfl, _⟩ := hb17_
  intro R ed bf
  exact wV (iv T) ed (eE false 1 0 ((0 : Int).toNat * 1) ((O.mem0 bf).at_ K 0 ⟨Int, Gx.encI, l.Gave, (b 0).1, (b 0).2⟩ (by kernel_rfl)) bo) (W_nil (oE (iv T) [] ⟨by kernel_rfl, rfl⟩ bf))
 ·intro t u
  intro v6_ hb6_
  obtain ⟨_, B, y, rfl, _⟩ := hb6_
  intro R ee cn
  exact wR 1 [(6, .slice B H.length y)] ee (W_nil (oE (.slice B H.length y) [] ⟨by kernel_rfl, rfl⟩ cn))
 ·intro t u
  intro v14_ hb14_
  obtain ⟨_, C, z, _, _, rfl, _⟩ := hb14_
  intro R ef co
  exact wR 1 [(7, .slice C I.length z)] ef (W_nil (oE (.slice C I.length z) [] ⟨by kernel_rfl, rfl⟩ co))
 intro t u
 intro v6_ hb6_
 obtain ⟨B, y, rfl, aq⟩ := hb6_
 intro v14_ hb14_
 obtain ⟨C, z, F, G, rfl, hs14_, ar⟩ := hb14_
 intro v18_ hb18_
 obtain ⟨rfl, _⟩ := hb18_
 intro v19_ hb19_
 obtain ⟨hv19_, _⟩ := hb19_
 obtain rfl : v19_ = (.slice B H.length y : Value) := hv19_.trans (by kernel_rfl)
 intro v20_ hb20_
 obtain ⟨hv20_, _⟩ := hb20_
 obtain rfl : v20_ = (.slice C I.length z : Value) := hv20_.trans (by kernel_rfl)
 intro ax cp
 have aa : Mem [] w ax [[(x, .cells ⟨[iv l.Guest, iv l.Goal, .slice ((b 0).1) l.Gave.length ((b 0).2)]⟩ 50 (0, 0))], (t 6), (t 14)] := cp
 rw [hs14_] at aa
 replace aa : Mem [] w ax [[(x, .cells ⟨[iv l.Guest, iv l.Goal, .slice ((b 0).1) l.Gave.length ((b 0).2)]⟩ 50 (0, 0))], (t 6), F, G] := aa.permF (by simp)
 refine wR 2 [(6, .slice B H.length y), (7, .slice C I.length z), (8, iv T), (9, .bool true)] ax (W_nil (N_then (G_ret ?_)))
 obtain rfl := Option.some.inj hm
 exact N_ret [.slice B H.length y, .slice C I.length z, iv T, .bool true] (rC (rC (rC (rC RVs_nil)))) (⟨B, y, (t 6), C, z, F, G, rfl, aq, ar, aa.pk [1, 2, 3]⟩)
theorem c_slices_Delete_64 (w : World) (d : List Int) (b : Option Addr) (a : Nat) (c : Seg) (l : ownS Gx.encI d b a c) (f : Int) (g : Int) (hA : ∀ q ∈ List.flatten [c], w.heap[q.1]? = some q.2) (hN : (idsOf [c]).Nodup) {r : (List Int) × (List Int)} (hm : M.slices_Delete_64 d f g = some r) :
  Calls Try.prog 64 #[.slice b d.length a, iv f, iv g] w fun e w' => ∃ (k : Seg), ∃ (j : Option Addr) (i : Nat), e = .returned (.slice j r.1.length i) ∧ ownS Gx.encI r.2 b a k ∧ r.2.length = d.length ∧ viewS 1 r.2 b a j i r.1 ∧ Mem (idsOf [c]) w w' [k] := by
 unfold M.slices_Delete_64 at hm
 rcases gx_bif hm with ⟨h, hm⟩ | ⟨h, hm⟩
 ·obtain rfl := Option.some.inj hm
  simp only [Bool.and_eq_true, decide_eq_true_eq] at h
  exact delI_run Try.slices_Delete_int w d b a c f g l hA hN h.1.1 h.1.2 h.2
 cases hm
end Go.Proofs.Ytlfligjpmodefaa
