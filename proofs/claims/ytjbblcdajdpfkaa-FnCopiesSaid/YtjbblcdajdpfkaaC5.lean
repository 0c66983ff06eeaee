/- The walks, printed by program: whenever the model gives r, the call returns r. Part 5. -/
import Derived.Test.YtjbblcdajdpfkaaM
import Derived.Test.YtjbblcdajdpfkaaGxZ
import Derived.Test.YtjbblcdajdpfkaaProg
import Derived.Test.YtjbblcdajdpfkaaC4
set_option linter.unusedVariables false
set_option maxRecDepth 100000
set_option maxHeartbeats 4000000
namespace Go.Proofs.Ytjbblcdajdpfkaa
open Go.Gx
theorem c_l_eqStoreS (w : World) (c : List Store) (f : Option Addr) (h : Nat) (u : rdS encStore w c f h) (d : List Store) (g : Option Addr) (i : Nat) (v : rdS encStore w d g i) {r : Bool} (hm : M.l_eqStoreS c d = some r) :
  Calls Try.prog 82 #[.slice f c.length h, .slice g d.length i] w fun e w' => e = .returned (.bool r) ∧ Mem [] w w' [] := by
 unfold M.l_eqStoreS at hm
 refine cE Try.func82 ?_
 have M0 := Mem.refl [] w
 refine G_seq (G_region (wR 1 [(0, .slice f c.length h), (1, .slice g d.length i)] w (W_nil (N_then (G_seq (G_seq (G_region (wR 5 [(0, .slice f c.length h), (1, .slice g d.length i), (10, .bool ((c.length : Int) != (d.length : Int)))] w (W_nil (N_then ?_))))))))))
 rcases gx_bif hm with ⟨l, hm⟩ | ⟨l, hm⟩
 ·refine gT l (G_seq (G_region (wR 1 [(4, .bool false)] w (W_nil (N_then (G_ret (N_then_ret ?_)))))))
  obtain rfl := Option.some.inj hm
  exact N_ret [.bool false] (rC RVs_nil) (⟨rfl, M0.pk []⟩)
 refine gF l (G_skip (N_then (G_seq (G_seq (G_region (wR 1 [(0, .slice f c.length h), (1, .slice g d.length i), (5, iv 0)] w (W_nil (N_then ?_))))))))
 obtain ⟨I, H, x⟩ := gx_bind hm
 refine G_meet (fun a w' => ∃ (B : Unit), I = .inl B ∧ Mem [] w w' [] ∧ Sat Try.f82.ntmps [] a) ?_ ?_
 ·refine G_block (G_while (σ := Int) (ρ := (Unit) ⊕ (Bool)) (fun b a w' => Mem [] w w' [] ∧ Sat Try.f82.ntmps [(0, .slice f c.length h), (1, .slice g d.length i), (5, iv b)] a) H (fun a ha => ⟨M0.pk [], ha.s⟩) ?_)
  clear hm
  intro b O hm y L J ⟨q, E⟩
  refine G_use E (G_seq (G_seq (G_region (wR 4 [(0, .slice f c.length h), (1, .slice g d.length i), (5, iv b), (14, .bool (decide (b < (c.length : Int))))] J (W_nil (N_then ?_))))))
  rcases gx_bif hm with ⟨m, hm⟩ | ⟨m, hm⟩
  ·refine gT m (G_skip (N_then (G_seq (G_block (G_seq (G_quiet (by kernel_rfl) (by kernel_rfl) q (zR [.slice f c.length h, iv b] [(0, .slice f c.length h), (1, .slice g d.length i), (5, iv b), (17, .slice f c.length h), (18, iv b)] ?_)))))))
   obtain ⟨j, z, hm⟩ := gx_bind hm
   refine zV (elemP f (b.toNat * 2)) (fun w_ M_ => (eI (u.mem0 M_) rfl z)) (zV (.agg #[iv j.Word, iv j.Value]) (fun w_ M_ => (eE true 2 0 (b.toNat * 2) (u.mem0 M_) z)) (zR [.slice g d.length i, iv b] [(0, .slice f c.length h), (1, .slice g d.length i), (5, iv b), (20, .agg #[iv j.Word, iv j.Value]), (21, .slice g d.length i), (22, iv b)] ?_))
   obtain ⟨k, A, hm⟩ := gx_bind hm
   refine zV (elemP g (b.toNat * 2)) (fun w_ M_ => (eI (v.mem0 M_) rfl A)) (zV (.agg #[iv k.Word, iv k.Value]) (fun w_ M_ => (eE true 2 0 (b.toNat * 2) (v.mem0 M_) A)) ?_)
   obtain ⟨o, G, hm⟩ := gx_bind hm
   refine Z_call 101 #[.agg #[iv j.Word, iv j.Value], .agg #[iv k.Word, iv k.Value]] (.bool o) (by kernel_rfl) (fun w_ => by kernel_rfl) (fun w_ M_ => (c_l_eqStore w_ j k G).mono fun e w2_ h_ => ⟨h_.1, M_.call0 h_.2⟩) (zR [.bool (!o)] [(0, .slice f c.length h), (1, .slice g d.length i), (5, iv b), (26, .bool (!o))] (Z_end fun C t => (N_then ?_)))
   rcases gx_bif hm with ⟨n, hm⟩ | ⟨n, hm⟩
   ·refine gT n (G_seq (G_region (wR 1 [(4, .bool false)] C (W_nil (N_then (G_ret (N_block_ret (N_then_ret (N_then_ret ?_)))))))))
    obtain rfl := Option.some.inj hm
    obtain rfl := y _ rfl
    have hm := x; simp only [Sum.elim_inr] at hm
    refine N_block_ret (N_meet_ret (N_then_ret ?_))
    obtain rfl := Option.some.inj hm
    exact N_ret [.bool false] (rC RVs_nil) (⟨rfl, t.pk []⟩)
   refine gF n (G_skip (N_block (N_then (G_region (wR 3 [(0, .slice f c.length h), (1, .slice g d.length i), (5, iv (w64 (b + 1)))] C (W_nil ?_))))))
   obtain rfl := Option.some.inj hm
   exact N_loop fun a ha => ⟨_, rfl, t.pk [], ha.s⟩
  refine gF m (G_exit (N_then_exit (N_then_exit (N_block_eq ?_))))
  obtain rfl := Option.some.inj hm
  obtain rfl := y _ rfl
  exact N_meet fun a ha => ⟨_, rfl, q.pk [], ha.s⟩
 intro N K ⟨B, hout_, D, F⟩
 refine N_use F ?_
 subst hout_
 have hm := x; simp only [Sum.elim_inl] at hm
 refine N_then (G_seq (G_region (wR 1 [(4, .bool true)] K (W_nil (N_then (G_ret ?_))))))
 obtain rfl := Option.some.inj hm
 exact N_ret [.bool true] (rC RVs_nil) (⟨rfl, D.pk []⟩)
theorem c_l_eqStoreSS (w : World) (c : List (List Store)) (f : Option Addr) (h : Nat) (I : rdD (deepL encStore) w c f h) (d : List (List Store)) (g : Option Addr) (i : Nat) (J : rdD (deepL encStore) w d g i) {r : Bool} (hm : M.l_eqStoreSS c d = some r) :
  Calls Try.prog 39 #[.slice f c.length h, .slice g d.length i] w fun e w' => e = .returned (.bool r) ∧ Mem [] w w' [] := by
 unfold M.l_eqStoreSS at hm
 refine cE Try.func39 ?_
 have M0 := Mem.refl [] w
 refine G_seq (G_region (wR 1 [(0, .slice f c.length h), (1, .slice g d.length i)] w (W_nil (N_then (G_seq (G_seq (G_region (wR 5 [(0, .slice f c.length h), (1, .slice g d.length i), (10, .bool ((c.length : Int) != (d.length : Int)))] w (W_nil (N_then ?_))))))))))
 rcases gx_bif hm with ⟨n, hm⟩ | ⟨n, hm⟩
 ·refine gT n (G_seq (G_region (wR 1 [(4, .bool false)] w (W_nil (N_then (G_ret (N_then_ret ?_)))))))
  obtain rfl := Option.some.inj hm
  exact N_ret [.bool false] (rC RVs_nil) (⟨rfl, M0.pk []⟩)
 refine gF n (G_skip (N_then (G_seq (G_seq (G_region (wR 1 [(0, .slice f c.length h), (1, .slice g d.length i), (5, iv 0)] w (W_nil (N_then ?_))))))))
 obtain ⟨T, Q, z⟩ := gx_bind hm
 refine G_meet (fun a w' => ∃ (F : Unit), T = .inl F ∧ Mem [] w w' [] ∧ Sat Try.f39.ntmps [] a) ?_ ?_
 ·refine G_block (G_while (σ := Int) (ρ := (Unit) ⊕ (Bool)) (fun b a w' => Mem [] w w' [] ∧ Sat Try.f39.ntmps [(0, .slice f c.length h), (1, .slice g d.length i), (5, iv b)] a) Q (fun a ha => ⟨M0.pk [], ha.s⟩) ?_)
  clear hm
  intro b Y hm A W U ⟨x, K⟩
  refine G_use K (G_seq (G_seq (G_region (wR 4 [(0, .slice f c.length h), (1, .slice g d.length i), (5, iv b), (14, .bool (decide (b < (c.length : Int))))] U (W_nil (N_then ?_))))))
  rcases gx_bif hm with ⟨o, hm⟩ | ⟨o, hm⟩
  ·refine gT o (G_skip (N_then (G_seq (G_block (G_seq (G_quiet (by kernel_rfl) (by kernel_rfl) x (zR [.slice f c.length h, iv b] [(0, .slice f c.length h), (1, .slice g d.length i), (5, iv b), (17, .slice f c.length h), (18, iv b)] ?_)))))))
   obtain ⟨l, R, hm⟩ := gx_bind hm
   obtain ⟨Z, D, B, N⟩ := id I
   obtain ⟨j, t⟩ := gxIdx_fst D R
   refine zV (elemP f (b.toNat * 1)) (fun w_ M_ => (eI (B.mem0 M_) (len_fst D) t)) (zV (.slice ((j 0).1) l.length ((j 0).2)) (fun w_ M_ => (eE false 1 0 (b.toNat * 1) (B.mem0 M_) t)) (zR [.slice g d.length i, iv b] [(0, .slice f c.length h), (1, .slice g d.length i), (5, iv b), (20, .slice ((j 0).1) l.length ((j 0).2)), (21, .slice g d.length i), (22, iv b)] ?_))
   obtain ⟨m, S, hm⟩ := gx_bind hm
   obtain ⟨aa, E, C, O⟩ := id J
   obtain ⟨k, u⟩ := gxIdx_fst E S
   refine zV (elemP g (b.toNat * 1)) (fun w_ M_ => (eI (C.mem0 M_) (len_fst E) u)) (zV (.slice ((k 0).1) m.length ((k 0).2)) (fun w_ M_ => (eE false 1 0 (b.toNat * 1) (C.mem0 M_) u)) ?_)
   obtain ⟨v, P, hm⟩ := gx_bind hm
   refine Z_call 82 #[.slice ((j 0).1) l.length ((j 0).2), .slice ((k 0).1) m.length ((k 0).2)] (.bool v) (by kernel_rfl) (fun w_ => by kernel_rfl) (fun w_ M_ => (c_l_eqStoreS w_ l ((j 0).1) ((j 0).2) ((N.mem0 M_).at_ t 0 ⟨Store, encStore, l, (j 0).1, (j 0).2⟩ (by kernel_rfl)) m ((k 0).1) ((k 0).2) ((O.mem0 M_).at_ u 0 ⟨Store, encStore, m, (k 0).1, (k 0).2⟩ (by kernel_rfl)) P).mono fun e w2_ h_ => ⟨h_.1, M_.call0 h_.2⟩) (zR [.bool (!v)] [(0, .slice f c.length h), (1, .slice g d.length i), (5, iv b), (26, .bool (!v))] (Z_end fun G y => (N_then ?_)))
   rcases gx_bif hm with ⟨q, hm⟩ | ⟨q, hm⟩
   ·refine gT q (G_seq (G_region (wR 1 [(4, .bool false)] G (W_nil (N_then (G_ret (N_block_ret (N_then_ret (N_then_ret ?_)))))))))
    obtain rfl := Option.some.inj hm
    obtain rfl := A _ rfl
    have hm := z; simp only [Sum.elim_inr] at hm
    refine N_block_ret (N_meet_ret (N_then_ret ?_))
    obtain rfl := Option.some.inj hm
    exact N_ret [.bool false] (rC RVs_nil) (⟨rfl, y.pk []⟩)
   refine gF q (G_skip (N_block (N_then (G_region (wR 3 [(0, .slice f c.length h), (1, .slice g d.length i), (5, iv (w64 (b + 1)))] G (W_nil ?_))))))
   obtain rfl := Option.some.inj hm
   exact N_loop fun a ha => ⟨_, rfl, y.pk [], ha.s⟩
  refine gF o (G_exit (N_then_exit (N_then_exit (N_block_eq ?_))))
  obtain rfl := Option.some.inj hm
  obtain rfl := A _ rfl
  exact N_meet fun a ha => ⟨_, rfl, x.pk [], ha.s⟩
 intro X V ⟨F, hout_, H, L⟩
 refine N_use L ?_
 subst hout_
 have hm := z; simp only [Sum.elim_inl] at hm
 refine N_then (G_seq (G_region (wR 1 [(4, .bool true)] V (W_nil (N_then (G_ret ?_))))))
 obtain rfl := Option.some.inj hm
 exact N_ret [.bool true] (rC RVs_nil) (⟨rfl, H.pk []⟩)
theorem c_l_FnExactRoundsUntil (w : World) (b : Copying) (q : Option Addr) (m : Nat) (an : rdS Gx.encI w b.Memory q m) (t : Option Addr) (n : Nat) (ao : rdS Gx.encI w b.Copy t n) (u : Option Addr) (o : Nat) (ap : rdS Gx.encB w b.Dirty u o) (d : List (List Store)) (k : Option Addr) (g : Nat) (aq : rdD (deepL encStore) w d k g) (x : Int) (y : Int) {r : Bool} (hm : M.l_FnExactRoundsUntil b d x y = some r) :
  Calls Try.prog 9 #[.agg #[.slice q b.Memory.length m, .slice t b.Copy.length n, .slice u b.Dirty.length o], .slice k d.length g, iv x, iv y] w fun e w' => e = .returned (.bool r) ∧ Mem [] w w' [] := by
 unfold M.l_FnExactRoundsUntil at hm
 refine cE Try.func9 ?_
 have M0 := Mem.refl [] w
 refine G_seq (G_region (wN (.cells ⟨[.slice q b.Memory.length m, .slice t b.Copy.length n, .slice u b.Dirty.length o]⟩ 25 (0, 0)) M0 ?_))
 intro l af ab
 refine wR 1 [(1, .slice k d.length g), (2, iv x), (3, iv y), (4, pB l 0)] af (W_nil (N_then (G_seq (G_region (wR 1 [(1, .slice k d.length g), (2, iv x), (3, iv y), (4, pB l 0), (9, iv 1048576)] af (W_nil (N_then (G_seq (G_region (wV (.agg #[.slice q b.Memory.length m, .slice t b.Copy.length n, .slice u b.Dirty.length o]) af (eL true 3 0 (ab.blk 0 rfl)) (wR 1 [(1, .slice k d.length g), (2, iv x), (3, iv y), (4, pB l 0), (9, iv 1048576), (16, .agg #[.slice q b.Memory.length m, .slice t b.Copy.length n, .slice u b.Dirty.length o]), (17, iv 1048576)] af ?_)))))))))))
 obtain ⟨Y, cw, hm⟩ := gx_bind hm
 refine wC 13 #[.agg #[.slice q b.Memory.length m, .slice t b.Copy.length n, .slice u b.Dirty.length o], iv 1048576] ((c_l_szCopying af b q m (an.mem0 ab) t n (ao.mem0 ab) u o (ap.mem0 ab) 1048576 cw).mono ?_)
 rintro e_ ag ⟨rfl, b9⟩
 have az := ab.call0 b9
 refine ⟨_, rfl, ?_⟩
 refine wR 1 [(1, .slice k d.length g), (2, iv x), (3, iv y), (4, pB l 0), (9, iv Y)] ag (W_nil (N_then (G_seq (G_seq (G_region (wR 2 [(1, .slice k d.length g), (2, iv x), (3, iv y), (4, pB l 0), (9, iv Y), (20, .bool (decide (Y < 0)))] ag (W_nil (N_then ?_))))))))
 rcases gx_bif hm with ⟨a6, hm⟩ | ⟨a6, hm⟩
 ·refine gT a6 (G_seq (G_region (wR 1 [(8, .bool true)] ag (W_nil (N_then (G_ret (N_then_ret ?_)))))))
  obtain rfl := Option.some.inj hm
  exact N_ret [.bool true] (rC RVs_nil) (⟨rfl, az.pk []⟩)
 refine gF a6 (G_skip (N_then (G_seq (G_region (wR 2 [(1, .slice k d.length g), (2, iv x), (3, iv y), (4, pB l 0), (9, iv Y), (21, .slice k d.length g), (22, iv Y)] ag ?_)))))
 obtain ⟨b4, cx, hm⟩ := gx_bind hm
 refine wC 35 #[.slice k d.length g, iv Y] ((c_l_szStoreSS ag d k g (aq.mem0 az) Y cx).mono ?_)
 rintro e_ ah ⟨rfl, ca⟩
 have Z := az.call0 ca
 refine ⟨_, rfl, ?_⟩
 refine wR 1 [(1, .slice k d.length g), (2, iv x), (3, iv y), (4, pB l 0), (9, iv b4)] ah (W_nil (N_then (G_seq (G_seq (G_region (wR 2 [(1, .slice k d.length g), (2, iv x), (3, iv y), (4, pB l 0), (25, .bool (decide (b4 < 0)))] ah (W_nil (N_then ?_))))))))
 rcases gx_bif hm with ⟨a7, hm⟩ | ⟨a7, hm⟩
 ·refine gT a7 (G_seq (G_region (wR 1 [(8, .bool true)] ah (W_nil (N_then (G_ret (N_then_ret ?_)))))))
  obtain rfl := Option.some.inj hm
  exact N_ret [.bool true] (rC RVs_nil) (⟨rfl, Z.pk []⟩)
 refine gF a7 (G_skip (N_then (G_seq (G_region (wV (.agg #[.slice q b.Memory.length m, .slice t b.Copy.length n, .slice u b.Dirty.length o]) ah (eL true 3 0 (Z.blk 0 rfl)) ?_)))))
 obtain ⟨U, cy, hm⟩ := gx_bind hm
 refine wC 15 #[.agg #[.slice q b.Memory.length m, .slice t b.Copy.length n, .slice u b.Dirty.length o]] ((c_l_toCopying ah b q m (an.mem0 Z) t n (ao.mem0 Z) u o (ap.mem0 Z) cy).mono ?_)
 rintro e_ b6 ⟨ar, aj, dg, au, ak, dh, av, al, di, rfl, cq, cr, cs, cb⟩
 have bp := Z.call cb
 refine ⟨_, rfl, ?_⟩
 refine wR 1 [(1, .slice k d.length g), (2, iv x), (3, iv y), (4, pB l 0), (28, .agg #[.slice ar U.Memory.length aj, .slice au U.Copy.length ak, .slice av U.Dirty.length al]), (29, .slice k d.length g)] b6 ?_
 obtain ⟨bg, cz, hm⟩ := gx_bind hm
 refine wC 37 #[.slice k d.length g] ((c_l_toStoreSS b6 d k g (aq.mem0 bp) cz).mono ?_)
 rintro e_ b7 ⟨bf, a4, dj, dk, rfl, ct, cc⟩
 have ac := bp.call cc
 refine ⟨_, rfl, ?_⟩
 refine wR 2 [(1, .slice k d.length g), (2, iv x), (3, iv y), (4, pB l 0), (28, .agg #[.slice ar U.Memory.length aj, .slice au U.Copy.length ak, .slice av U.Dirty.length al]), (30, .slice bf bg.length a4), (31, iv x), (32, iv y)] b7 ?_
 obtain ⟨J, c0, hm⟩ := gx_bind hm
 refine wC 36 #[.agg #[.slice ar U.Memory.length aj, .slice au U.Copy.length ak, .slice av U.Dirty.length al], .slice bf bg.length a4, iv x, iv y] ((c_s_RoundsUntil b7 U ar aj (cq.rd ac 1 (by kernel_rfl)) au ak (cr.rd ac 2 (by kernel_rfl)) av al (cs.rd ac 3 (by kernel_rfl)) bg bf a4 (ct.rd ac 4 (by kernel_rfl) 5 (by kernel_rfl)) x y c0).mono ?_)
 rintro e_ bm ⟨rfl, cd⟩
 have ad := ac.call0 cd
 refine ⟨_, rfl, ?_⟩
 refine wR 5 [(1, .slice k d.length g), (2, iv x), (3, iv y), (4, pB l 0), (10, iv J.1), (11, .bool J.2)] bm (W_nil (N_then (G_seq (G_region (wV (.agg #[.slice q b.Memory.length m, .slice t b.Copy.length n, .slice u b.Dirty.length o]) bm (eL true 3 0 (ad.blk 0 rfl)) ?_)))))
 obtain ⟨c, c1, hm⟩ := gx_bind hm
 refine wC 15 #[.agg #[.slice q b.Memory.length m, .slice t b.Copy.length n, .slice u b.Dirty.length o]] ((c_l_toCopying bm b q m (an.mem0 ad) t n (ao.mem0 ad) u o (ap.mem0 ad) c1).mono ?_)
 rintro e_ dn ⟨E, A, bh, F, B, bi, G, C, bj, rfl, bx, bz, b0, ce⟩
 have cl := ad.call ce
 refine ⟨_, rfl, ?_⟩
 refine wN (.cells ⟨[.slice none 0 0, .slice none 0 0, .slice none 0 0]⟩ 28 (0, 0)) cl ?_
 intro K dp cm
 refine wS true 3 0 (.agg #[.slice E c.Memory.length A, .slice F c.Copy.length B, .slice G c.Dirty.length C]) 9 [.slice E c.Memory.length A, .slice F c.Copy.length B, .slice G c.Dirty.length C] cm rfl ?_
 intro b8 bq
 refine W_nil (N_then (G_seq (G_region (wR 1 [(1, .slice k d.length g), (2, iv x), (3, iv y), (4, pB l 0), (10, iv J.1), (11, .bool J.2), (12, pB K 0), (38, .slice k d.length g)] b8 ?_))))
 obtain ⟨I, c2, hm⟩ := gx_bind hm
 refine wC 37 #[.slice k d.length g] ((c_l_toStoreSS b8 d k g (aq.mem0 bq) c2).mono ?_)
 rintro e_ aw ⟨H, D, bk, bl, rfl, b1, cf⟩
 have aa := bq.call cf
 refine ⟨_, rfl, ?_⟩
 refine wR 1 [(1, .slice k d.length g), (2, iv x), (3, iv y), (4, pB l 0), (10, iv J.1), (11, .bool J.2), (12, pB K 0), (13, .slice H I.length D)] aw (W_nil (N_then (G_seq (G_region (wV (.agg #[.slice E c.Memory.length A, .slice F c.Copy.length B, .slice G c.Dirty.length C]) aw (eL true 3 0 (aa.blk 9 rfl)) (wR 3 [(1, .slice k d.length g), (4, pB l 0), (10, iv J.1), (11, .bool J.2), (12, pB K 0), (13, .slice H I.length D), (41, .agg #[.slice E c.Memory.length A, .slice F c.Copy.length B, .slice G c.Dirty.length C]), (42, .slice H I.length D), (43, iv x), (44, iv y)] aw ?_))))))
 obtain ⟨ae, c3, hm⟩ := gx_bind hm
 refine wC 38 #[.agg #[.slice E c.Memory.length A, .slice F c.Copy.length B, .slice G c.Dirty.length C], .slice H I.length D, iv x, iv y] ((c_i_RoundsUntil aw c E A (bx.rd aa 6 (by kernel_rfl)) F B (bz.rd aa 7 (by kernel_rfl)) G C (b0.rd aa 8 (by kernel_rfl)) I H D (b1.rd aa 10 (by kernel_rfl) 11 (by kernel_rfl)) x y c3).mono ?_)
 rintro e_ ax ⟨rfl, cg⟩
 have br := aa.call0 cg
 refine ⟨_, rfl, ?_⟩
 refine wR 5 [(1, .slice k d.length g), (4, pB l 0), (10, iv J.1), (11, .bool J.2), (12, pB K 0), (13, .slice H I.length D), (14, iv ae.1), (15, .bool ae.2)] ax (W_nil (N_then (G_seq (G_seq ?_))))
 obtain ⟨b2, cu, cp⟩ := gx_bind hm
 refine G_meet (fun a w' => Mem [] w w' [[(l, .cells ⟨[.slice q b.Memory.length m, .slice t b.Copy.length n, .slice u b.Dirty.length o]⟩ 25 (0, 0))], bh, bi, bj, [(K, .cells ⟨[.slice E c.Memory.length A, .slice F c.Copy.length B, .slice G c.Dirty.length C]⟩ 28 (0, 0))], bk, bl] ∧ Sat Try.f9.ntmps [(1, .slice k d.length g), (4, pB l 0), (12, pB K 0), (13, .slice H I.length D), (55, .bool b2)] a) ?_ ?_
 ·have hm := cu
  refine G_region (wR 4 [(1, .slice k d.length g), (4, pB l 0), (11, .bool J.2), (12, pB K 0), (13, .slice H I.length D), (15, .bool ae.2), (51, .bool (ae.1 != J.1))] ax ?_)
  rcases gx_bif hm with ⟨a8, hm⟩ | ⟨a8, hm⟩
  ·refine wK 51 true a8 (wR 4 [(1, .slice k d.length g), (4, pB l 0), (12, pB K 0), (13, .slice H I.length D), (55, .bool true)] ax (W_nil ?_))
   obtain rfl := Option.some.inj hm
   exact N_meet fun a ha => ⟨br.pk [0, 6, 7, 8, 9, 10, 11], ha.s⟩
  refine wK 51 false a8 (wR 4 [(1, .slice k d.length g), (4, pB l 0), (12, pB K 0), (13, .slice H I.length D), (55, .bool (!(ae.2 == J.2)))] ax (W_nil ?_))
  obtain rfl := Option.some.inj hm
  exact N_meet fun a ha => ⟨br.pk [0, 6, 7, 8, 9, 10, 11], ha.s⟩
 intro df da ⟨bs, co⟩
 refine N_use co ?_
 have hm := cp
 refine N_then ?_
 rcases gx_bif hm with ⟨a9, hm⟩ | ⟨a9, hm⟩
 ·refine gT a9 (G_seq (G_region (wR 1 [(8, .bool false)] da (W_nil (N_then (G_ret (N_then_ret ?_)))))))
  obtain rfl := Option.some.inj hm
  exact N_ret [.bool false] (rC RVs_nil) (⟨rfl, bs.pk []⟩)
 refine gF a9 (G_skip (N_then (G_seq (G_seq ?_))))
 obtain ⟨z, c4, hm⟩ := gx_bind hm
 refine G_sub [(1, .slice k d.length g), (4, pB l 0), (12, pB K 0), (13, .slice H I.length D), (55, .bool b2)] (by kernel_rfl) (G_dagL 3 [[], [], [1]] [[], [], []] [[], [], []] [[], [], []] [[], [], []] [[], [], []] (fun _ => []) (fun i => ([fun f v s => v = (.agg #[.slice E c.Memory.length A, .slice F c.Copy.length B, .slice G c.Dirty.length C] : Value) ∧ s = [], fun f v s => v = (.agg #[.slice q b.Memory.length m, .slice t b.Copy.length n, .slice u b.Dirty.length o] : Value) ∧ s = [], fun f v s => ∃ (P : Option Addr) (L : Nat) (V : Seg), ∃ (Q : Option Addr) (N : Nat) (W : Seg), ∃ (S : Option Addr) (O : Nat) (X : Seg), v = (.agg #[.slice P z.Memory.length L, .slice Q z.Copy.length N, .slice S z.Dirty.length O] : Value) ∧ s = (V ++ (W ++ X)) ∧ ownS Gx.encI z.Memory P L V ∧ ownS Gx.encI z.Copy Q N W ∧ ownS Gx.encB z.Dirty S O X] : List ((Nat → Value) → Value → Seg → Prop)).getD i (fun _ _ _ => False)) (fun j f v => ∃ s, (fun i => ([fun f v s => v = (.agg #[.slice E c.Memory.length A, .slice F c.Copy.length B, .slice G c.Dirty.length C] : Value) ∧ s = [], fun f v s => v = (.agg #[.slice q b.Memory.length m, .slice t b.Copy.length n, .slice u b.Dirty.length o] : Value) ∧ s = [], fun f v s => ∃ (P : Option Addr) (L : Nat) (V : Seg), ∃ (Q : Option Addr) (N : Nat) (W : Seg), ∃ (S : Option Addr) (O : Nat) (X : Seg), v = (.agg #[.slice P z.Memory.length L, .slice Q z.Copy.length N, .slice S z.Dirty.length O] : Value) ∧ s = (V ++ (W ++ X)) ∧ ownS Gx.encI z.Memory P L V ∧ ownS Gx.encI z.Copy Q N W ∧ ownS Gx.encB z.Dirty S O X] : List ((Nat → Value) → Value → Seg → Prop)).getD i (fun _ _ _ => False)) j f v s) [] [0, 2] [2] (fun _ _ _ s h => ⟨s, h⟩) (by kernel_rfl) (by kernel_rfl) (bs.preNil 3) (by kernel_rfl) (by kernel_rfl) (by kernel_rfl) (by kernel_rfl) (allOb_cons ?_ (allOb_cons ?_ (allOb_cons ?_ allOb_nil))) ?_)
 ·intro am a5
  intro R db bt
  exact wV (.agg #[.slice E c.Memory.length A, .slice F c.Copy.length B, .slice G c.Dirty.length C]) db (eL true 3 0 (bt.blk 4 rfl)) (W_nil (oE (.agg #[.slice E c.Memory.length A, .slice F c.Copy.length B, .slice G c.Dirty.length C]) [] ⟨by kernel_rfl, rfl⟩ bt))
 ·intro am a5
  intro R dc bu
  exact wV (.agg #[.slice q b.Memory.length m, .slice t b.Copy.length n, .slice u b.Dirty.length o]) dc (eL true 3 0 (bu.blk 0 rfl)) (W_nil (oE (.agg #[.slice q b.Memory.length m, .slice t b.Copy.length n, .slice u b.Dirty.length o]) [] ⟨by kernel_rfl, rfl⟩ bu))
 ·intro am a5
  intro v1_ hb1_
  obtain ⟨rfl, _⟩ := hb1_
  intro R dd ai
  refine wC 15 #[.agg #[.slice q b.Memory.length m, .slice t b.Copy.length n, .slice u b.Dirty.length o]] ((c_l_toCopying dd b q m (an.mem0 ai) t n (ao.mem0 ai) u o (ap.mem0 ai) c4).mono ?_)
  rintro e_ dq ⟨P, L, V, Q, N, W, S, O, X, rfl, bc, bd, be, ch⟩
  refine ⟨_, rfl, ?_⟩
  exact W_nil (oE (.agg #[.slice P z.Memory.length L, .slice Q z.Copy.length N, .slice S z.Dirty.length O]) (V ++ (W ++ X)) ⟨P, L, V, Q, N, W, S, O, X, rfl, rfl, bc, bd, be⟩ (Mem.callMid ai (ch.permF (by simp))))
 intro am a5
 intro v0_ hb0_
 obtain ⟨rfl, _⟩ := hb0_
 intro v2_ hb2_
 obtain ⟨P, L, V, Q, N, W, S, O, X, rfl, hs2_, bc, bd, be⟩ := hb2_
 intro bn cn
 have T : Mem [] w bn [[(l, .cells ⟨[.slice q b.Memory.length m, .slice t b.Copy.length n, .slice u b.Dirty.length o]⟩ 25 (0, 0))], bh, bi, bj, [(K, .cells ⟨[.slice E c.Memory.length A, .slice F c.Copy.length B, .slice G c.Dirty.length C]⟩ 28 (0, 0))], bk, bl, (am 2)] := cn
 rw [hs2_] at T
 replace T : Mem [] w bn [[(l, .cells ⟨[.slice q b.Memory.length m, .slice t b.Copy.length n, .slice u b.Dirty.length o]⟩ 25 (0, 0))], bh, bi, bj, [(K, .cells ⟨[.slice E c.Memory.length A, .slice F c.Copy.length B, .slice G c.Dirty.length C]⟩ 28 (0, 0))], bk, bl, V, W, X] := T.permF (by simp)
 obtain ⟨c8, c5, hm⟩ := gx_bind hm
 refine wC 17 #[.agg #[.slice E c.Memory.length A, .slice F c.Copy.length B, .slice G c.Dirty.length C], .agg #[.slice P z.Memory.length L, .slice Q z.Copy.length N, .slice S z.Dirty.length O]] ((c_l_eqCopying bn c E A (bx.rd T 1 (by kernel_rfl)) F B (bz.rd T 2 (by kernel_rfl)) G C (b0.rd T 3 (by kernel_rfl)) z P L (bc.rd T 7 (by kernel_rfl)) Q N (bd.rd T 8 (by kernel_rfl)) S O (be.rd T 9 (by kernel_rfl)) c5).mono ?_)
 rintro e_ ay ⟨rfl, ci⟩
 have a0 := T.call0 ci
 refine ⟨_, rfl, ?_⟩
 refine wR 1 [(1, .slice k d.length g), (13, .slice H I.length D), (60, .bool (!c8))] ay (W_nil (N_then ?_))
 rcases gx_bif hm with ⟨ba, hm⟩ | ⟨ba, hm⟩
 ·refine gT ba (G_seq (G_region (wR 1 [(8, .bool false)] ay (W_nil (N_then (G_ret (N_then_ret ?_)))))))
  obtain rfl := Option.some.inj hm
  exact N_ret [.bool false] (rC RVs_nil) (⟨rfl, a0.pk []⟩)
 refine gF ba (G_skip (N_then (G_seq (G_seq (G_region (wR 2 [(61, .slice H I.length D), (62, .slice k d.length g)] ay ?_))))))
 obtain ⟨b5, c6, hm⟩ := gx_bind hm
 refine wC 37 #[.slice k d.length g] ((c_l_toStoreSS ay d k g (aq.mem0 a0) c6).mono ?_)
 rintro e_ de ⟨b3, bw, dl, dm, rfl, cv, cj⟩
 have a3 := a0.call cj
 refine ⟨_, rfl, ?_⟩
 obtain ⟨c9, c7, hm⟩ := gx_bind hm
 refine wC 39 #[.slice H I.length D, .slice b3 b5.length bw] ((c_l_eqStoreSS de I H D (b1.rd a3 5 (by kernel_rfl) 6 (by kernel_rfl)) b5 b3 bw (cv.rd a3 10 (by kernel_rfl) 11 (by kernel_rfl)) c7).mono ?_)
 rintro e_ bo ⟨rfl, ck⟩
 have bv := a3.call0 ck
 refine ⟨_, rfl, ?_⟩
 refine wR 1 [(65, .bool (!c9))] bo (W_nil (N_then ?_))
 rcases gx_bif hm with ⟨bb, hm⟩ | ⟨bb, hm⟩
 ·refine gT bb (G_seq (G_region (wR 1 [(8, .bool false)] bo (W_nil (N_then (G_ret (N_then_ret ?_)))))))
  obtain rfl := Option.some.inj hm
  exact N_ret [.bool false] (rC RVs_nil) (⟨rfl, bv.pk []⟩)
 refine gF bb (G_skip (N_then (G_seq (G_region (wR 1 [(8, .bool true)] bo (W_nil (N_then (G_ret ?_))))))))
 obtain rfl := Option.some.inj hm
 exact N_ret [.bool true] (rC RVs_nil) (⟨rfl, bv.pk []⟩)
theorem c_s_RunRounds (w : World) (c : Copying) (t : Option Addr) (m : Nat) (L : rdS Gx.encI w c.Memory t m) (u : Option Addr) (n : Nat) (N : rdS Gx.encI w c.Copy u n) (x : Option Addr) (q : Nat) (O : rdS Gx.encB w c.Dirty x q) (h : List (List Store)) (j : Option Addr) (i : Nat) (ab : rdD (deepL encStore) w h j i) (l : Int) {r : Copying × Int × Bool} (hm : M.s_RunRounds c h l = some r) :
  Calls Try.prog 40 #[.agg #[.slice t c.Memory.length m, .slice u c.Copy.length n, .slice x c.Dirty.length q], .slice j h.length i, iv l] w fun e w' => ∃ (ac : Option Addr) (Y : Nat) (af : Seg), ∃ (ad : Option Addr) (Z : Nat) (ag : Seg), ∃ (ae : Option Addr) (aa : Nat) (ah : Seg), e = .returned (.tuple #[.agg #[.slice ac r.1.Memory.length Y, .slice ad r.1.Copy.length Z, .slice ae r.1.Dirty.length aa], iv r.2.1, .bool r.2.2]) ∧ ownS Gx.encI r.1.Memory ac Y af ∧ ownS Gx.encI r.1.Copy ad Z ag ∧ ownS Gx.encB r.1.Dirty ae aa ah ∧ Mem [] w w' [af, ag, ah] := by
 unfold M.s_RunRounds at hm
 refine cE Try.func40 ?_
 have M0 := Mem.refl [] w
 refine G_seq (G_region (wN (.cells ⟨[.slice t c.Memory.length m, .slice u c.Copy.length n, .slice x c.Dirty.length q]⟩ 28 (0, 0)) M0 ?_))
 intro E bh am
 refine wN (.cells ⟨[.slice none 0 0, .slice none 0 0, .slice none 0 0]⟩ 28 (0, 0)) am ?_
 intro f S H
 refine wR 2 [(1, .slice j h.length i), (2, iv l), (3, pB E 0), (6, pB f 0)] S (W_nil (N_then (G_seq (G_seq ?_))))
 obtain ⟨a5, av, au⟩ := gx_bind hm
 refine G_meet (fun a w' => Mem [] w w' [[(E, .cells ⟨[.slice t c.Memory.length m, .slice u c.Copy.length n, .slice x c.Dirty.length q]⟩ 28 (0, 0))], [(f, .cells ⟨[.slice none 0 0, .slice none 0 0, .slice none 0 0]⟩ 28 (0, 0))]] ∧ Sat Try.f40.ntmps [(1, .slice j h.length i), (2, iv l), (3, pB E 0), (6, pB f 0), (24, .bool a5)] a) ?_ ?_
 ·have hm := av
  refine G_region (wV (.agg #[.slice t c.Memory.length m, .slice u c.Copy.length n, .slice x c.Dirty.length q]) S (eL true 3 0 (H.blk 0 rfl)) ?_)
  obtain ⟨a6, az, hm⟩ := gx_bind hm
  refine wC 56 #[.agg #[.slice t c.Memory.length m, .slice u c.Copy.length n, .slice x c.Dirty.length q]] ((c_s_l19Good S c t m (L.mem0 H) u n (N.mem0 H) x q (O.mem0 H) az).mono ?_)
  rintro e_ I ⟨rfl, ai⟩
  have F := H.call0 ai
  refine ⟨_, rfl, ?_⟩
  refine wR 2 [(1, .slice j h.length i), (2, iv l), (3, pB E 0), (6, pB f 0), (14, .bool (!a6))] I ?_
  rcases gx_bif hm with ⟨P, hm⟩ | ⟨P, hm⟩
  ·refine wK 14 true P (wR 10 [(1, .slice j h.length i), (2, iv l), (3, pB E 0), (6, pB f 0), (24, .bool true)] I (W_nil ?_))
   obtain rfl := Option.some.inj hm
   exact N_meet fun a ha => ⟨F.pk [0, 1], ha.s⟩
  refine wK 14 false P (wV (.agg #[.slice t c.Memory.length m, .slice u c.Copy.length n, .slice x c.Dirty.length q]) I (eL true 3 0 (F.blk 0 rfl)) (wR 1 [(1, .slice j h.length i), (2, iv l), (3, pB E 0), (6, pB f 0), (14, .bool false), (15, .agg #[.slice t c.Memory.length m, .slice u c.Copy.length n, .slice x c.Dirty.length q]), (16, .slice j h.length i)] I ?_))
  obtain ⟨a7, a0, hm⟩ := gx_bind hm
  refine wC 77 #[.agg #[.slice t c.Memory.length m, .slice u c.Copy.length n, .slice x c.Dirty.length q], .slice j h.length i] ((c_s_l19Stores I c t m (L.mem0 F) u n (N.mem0 F) x q (O.mem0 F) h j i (ab.mem0 F) a0).mono ?_)
  rintro e_ J ⟨rfl, aj⟩
  have U := F.call0 aj
  refine ⟨_, rfl, ?_⟩
  refine wR 3 [(1, .slice j h.length i), (2, iv l), (3, pB E 0), (6, pB f 0), (20, .bool (!a7))] J ?_
  rcases gx_bif hm with ⟨Q, hm⟩ | ⟨Q, hm⟩
  ·refine wK 20 true Q (wR 4 [(1, .slice j h.length i), (2, iv l), (3, pB E 0), (6, pB f 0), (24, .bool true)] J (W_nil ?_))
   obtain rfl := Option.some.inj hm
   exact N_meet fun a ha => ⟨U.pk [0, 1], ha.s⟩
  refine wK 20 false Q (wR 1 [(1, .slice j h.length i), (2, iv l), (3, pB E 0), (6, pB f 0), (20, .bool false), (21, iv l)] J ?_)
  obtain ⟨a8, a3, hm⟩ := gx_bind hm
  refine wC 73 #[iv l, iv 0, iv 12] ((c_s_l1In J l 0 12 a3).mono ?_)
  rintro e_ bc ⟨rfl, ak⟩
  have an := U.call0 ak
  refine ⟨_, rfl, ?_⟩
  refine wR 2 [(1, .slice j h.length i), (2, iv l), (3, pB E 0), (6, pB f 0), (24, .bool (!a8))] bc (W_nil ?_)
  obtain rfl := Option.some.inj hm
  exact N_meet fun a ha => ⟨an.pk [0, 1], ha.s⟩
 intro bg K ⟨G, ar⟩
 refine N_use ar ?_
 have hm := au
 refine N_then ?_
 rcases gx_bif hm with ⟨R, hm⟩ | ⟨R, hm⟩
 ·refine gT R (G_seq (G_region (wR 1 [(6, pB f 0), (25, .agg #[.slice none 0 0, .slice none 0 0, .slice none 0 0])] K (wS true 3 0 (.agg #[.slice none 0 0, .slice none 0 0, .slice none 0 0]) 1 [.slice none 0 0, .slice none 0 0, .slice none 0 0] G rfl ?_))))
  intro bd V
  refine wR 2 [(6, pB f 0), (7, iv 0), (8, .bool false)] bd (W_nil (N_then (G_ret (N_then_ret ?_))))
  obtain rfl := Option.some.inj hm
  exact N_ret [.agg #[.slice none 0 0, .slice none 0 0, .slice none 0 0], iv 0, .bool false] (RVs_cons (RV_cell (g := true) (k := 3) (b := f) (off := 0) (cs := [.slice none 0 0, .slice none 0 0, .slice none 0 0]) (e := 28) (fr := (0, 0)) (v := .agg #[.slice none 0 0, .slice none 0 0, .slice none 0 0]) (V.blk 1 (b := f) (o := .cells ⟨[.slice none 0 0, .slice none 0 0, .slice none 0 0]⟩ 28 (0, 0)) (by kernel_rfl)) (by kernel_rfl) (by kernel_rfl) (by kernel_rfl)) (rC (rC RVs_nil))) (⟨none, 0, [], none, 0, [], none, 0, [], rfl, ownS_nil, ownS_nil, ownS_nil, V.pk [100000, 100001, 100002]⟩)
 refine gF R (G_skip (N_then (G_seq (G_region (wV (.agg #[.slice t c.Memory.length m, .slice u c.Copy.length n, .slice x c.Dirty.length q]) K (eL true 3 0 (G.blk 0 rfl)) (wR 2 [(6, pB f 0), (27, .agg #[.slice t c.Memory.length m, .slice u c.Copy.length n, .slice x c.Dirty.length q]), (28, .slice j h.length i), (29, iv l)] K ?_))))))
 obtain ⟨d, a4, hm⟩ := gx_bind hm
 refine wC 78 #[.agg #[.slice t c.Memory.length m, .slice u c.Copy.length n, .slice x c.Dirty.length q], .slice j h.length i, iv l] ((c_s_l19Run K c t m (L.mem0 G) u n (N.mem0 G) x q (O.mem0 G) h j i (ab.mem0 G) l a4).mono ?_)
 rintro e_ be ⟨B, y, a9, C, z, ba, D, A, bb, rfl, aw, ax, ay, al⟩
 have ao := G.call al
 refine ⟨_, rfl, ?_⟩
 refine wR 3 [(6, pB f 0), (31, .agg #[.slice B d.1.Memory.length y, .slice C d.1.Copy.length z, .slice D d.1.Dirty.length A]), (32, iv d.2)] be (wN (.cells ⟨[.slice none 0 0, .slice none 0 0, .slice none 0 0]⟩ 28 (0, 0)) ao ?_)
 intro aq bi ap
 refine wS true 3 0 (.agg #[.slice B d.1.Memory.length y, .slice C d.1.Copy.length z, .slice D d.1.Dirty.length A]) 5 [.slice B d.1.Memory.length y, .slice C d.1.Copy.length z, .slice D d.1.Dirty.length A] ap rfl ?_
 intro T W
 refine wR 1 [(6, pB f 0), (9, pB aq 0), (10, iv d.2)] T (W_nil (N_then (G_seq (G_region (wV (.agg #[.slice B d.1.Memory.length y, .slice C d.1.Copy.length z, .slice D d.1.Dirty.length A]) T (eL true 3 0 (W.blk 5 rfl)) (wR 1 [(6, pB f 0), (33, .agg #[.slice B d.1.Memory.length y, .slice C d.1.Copy.length z, .slice D d.1.Dirty.length A]), (34, iv d.2)] T (wS true 3 0 (.agg #[.slice B d.1.Memory.length y, .slice C d.1.Copy.length z, .slice D d.1.Dirty.length A]) 1 [.slice B d.1.Memory.length y, .slice C d.1.Copy.length z, .slice D d.1.Dirty.length A] W rfl ?_)))))))
 intro bf X
 refine wR 2 [(6, pB f 0), (7, iv d.2), (8, .bool true)] bf (W_nil (N_then (G_ret ?_)))
 obtain rfl := Option.some.inj hm
 exact N_ret [.agg #[.slice B d.1.Memory.length y, .slice C d.1.Copy.length z, .slice D d.1.Dirty.length A], iv d.2, .bool true] (RVs_cons (RV_cell (g := true) (k := 3) (b := f) (off := 0) (cs := [.slice B d.1.Memory.length y, .slice C d.1.Copy.length z, .slice D d.1.Dirty.length A]) (e := 28) (fr := (0, 0)) (v := .agg #[.slice B d.1.Memory.length y, .slice C d.1.Copy.length z, .slice D d.1.Dirty.length A]) (X.blk 1 (b := f) (o := .cells ⟨[.slice B d.1.Memory.length y, .slice C d.1.Copy.length z, .slice D d.1.Dirty.length A]⟩ 28 (0, 0)) (by kernel_rfl)) (by kernel_rfl) (by kernel_rfl) (by kernel_rfl)) (rC (rC RVs_nil))) (⟨B, y, a9, C, z, ba, D, A, bb, rfl, aw, ax, ay, X.pk [2, 3, 4]⟩)
theorem c_i_RunRounds (w : World) (d : Copying) (E : Option Addr) (B : Nat) (au : rdS Gx.encI w d.Memory E B) (F : Option Addr) (C : Nat) (av : rdS Gx.encI w d.Copy F C) (G : Option Addr) (D : Nat) (aw : rdS Gx.encB w d.Dirty G D) (h : List (List Store)) (l : Option Addr) (m : Nat) (ax : rdD (deepL encStore) w h l m) (j : Int) {r : Copying × Int × Bool} (hm : M.i_RunRounds d h j = some r) :
  Calls Try.prog 41 #[.agg #[.slice E d.Memory.length B, .slice F d.Copy.length C, .slice G d.Dirty.length D], .slice l h.length m, iv j] w fun e w' => ∃ (a6 : Option Addr) (ap : Nat) (ba : Seg), ∃ (a7 : Option Addr) (aq : Nat) (bb : Seg), ∃ (a8 : Option Addr) (ar : Nat) (bc : Seg), e = .returned (.tuple #[.agg #[.slice a6 r.1.Memory.length ap, .slice a7 r.1.Copy.length aq, .slice a8 r.1.Dirty.length ar], iv r.2.1, .bool r.2.2]) ∧ ownS Gx.encI r.1.Memory a6 ap ba ∧ ownS Gx.encI r.1.Copy a7 aq bb ∧ ownS Gx.encB r.1.Dirty a8 ar bc ∧ Mem [] w w' [ba, bb, bc] := by
 unfold M.i_RunRounds at hm
 refine cE Try.func41 ?_
 have M0 := Mem.refl [] w
 refine G_seq (G_region (wN (.cells ⟨[.slice E d.Memory.length B, .slice F d.Copy.length C, .slice G d.Dirty.length D]⟩ 28 (0, 0)) M0 ?_))
 intro ad co bj
 refine wN (.cells ⟨[.slice none 0 0, .slice none 0 0, .slice none 0 0]⟩ 28 (0, 0)) bj ?_
 intro i ab J
 refine wR 2 [(1, .slice l h.length m), (2, iv j), (3, pB ad 0), (6, pB i 0)] ab (W_nil (N_then (G_seq (G_seq (G_region (wV (.agg #[.slice E d.Memory.length B, .slice F d.Copy.length C, .slice G d.Dirty.length D]) ab (eL true 3 0 (J.blk 0 rfl)) (wR 2 [(1, .slice l h.length m), (2, iv j), (3, pB ad 0), (6, pB i 0), (13, .agg #[.slice E d.Memory.length B, .slice F d.Copy.length C, .slice G d.Dirty.length D]), (14, .slice l h.length m), (15, iv j)] ab ?_)))))))
 obtain ⟨cd, b5, hm⟩ := gx_bind hm
 refine wC 80 #[.agg #[.slice E d.Memory.length B, .slice F d.Copy.length C, .slice G d.Dirty.length D], .slice l h.length m, iv j] ((c_i_areRounds ab d E B (au.mem0 J) F C (av.mem0 J) G D (aw.mem0 J) h l m (ax.mem0 J) j b5).mono ?_)
 rintro e_ ac ⟨rfl, bg⟩
 have K := J.call0 bg
 refine ⟨_, rfl, ?_⟩
 refine wR 1 [(1, .slice l h.length m), (2, iv j), (3, pB ad 0), (6, pB i 0), (17, .bool (!cd))] ac (W_nil (N_then ?_))
 rcases gx_bif hm with ⟨ah, hm⟩ | ⟨ah, hm⟩
 ·refine gT ah (G_seq (G_region (wR 1 [(6, pB i 0), (18, .agg #[.slice none 0 0, .slice none 0 0, .slice none 0 0])] ac (wS true 3 0 (.agg #[.slice none 0 0, .slice none 0 0, .slice none 0 0]) 1 [.slice none 0 0, .slice none 0 0, .slice none 0 0] K rfl ?_))))
  intro ck am
  refine wR 2 [(6, pB i 0), (7, iv 0), (8, .bool false)] ck (W_nil (N_then (G_ret (N_then_ret ?_))))
  obtain rfl := Option.some.inj hm
  exact N_ret [.agg #[.slice none 0 0, .slice none 0 0, .slice none 0 0], iv 0, .bool false] (RVs_cons (RV_cell (g := true) (k := 3) (b := i) (off := 0) (cs := [.slice none 0 0, .slice none 0 0, .slice none 0 0]) (e := 28) (fr := (0, 0)) (v := .agg #[.slice none 0 0, .slice none 0 0, .slice none 0 0]) (am.blk 1 (b := i) (o := .cells ⟨[.slice none 0 0, .slice none 0 0, .slice none 0 0]⟩ 28 (0, 0)) (by kernel_rfl)) (by kernel_rfl) (by kernel_rfl) (by kernel_rfl)) (rC (rC RVs_nil))) (⟨none, 0, [], none, 0, [], none, 0, [], rfl, ownS_nil, ownS_nil, ownS_nil, am.pk [100000, 100001, 100002]⟩)
 refine gF ah (G_skip (N_then (G_seq (G_region (wV (.agg #[.slice E d.Memory.length B, .slice F d.Copy.length C, .slice G d.Dirty.length D]) ac (eL true 3 0 (K.blk 0 rfl)) ?_)))))
 obtain ⟨L, b6, hm⟩ := gx_bind hm
 refine wC 71 #[.agg #[.slice E d.Memory.length B, .slice F d.Copy.length C, .slice G d.Dirty.length D]] ((c_i_newCopying ac d E B (au.mem0 K) F C (av.mem0 K) G D (aw.mem0 K) b6).mono ?_)
 rintro e_ cp ⟨aj, ae, ce, ak, af, cf, al, ag, cg, rfl, bu, bv, bw, bh⟩
 have bk := K.call bh
 refine ⟨_, rfl, ?_⟩
 refine wN (.cells ⟨[.slice none 0 0, .slice none 0 0, .slice none 0 0]⟩ 28 (0, 0)) bk ?_
 intro q cq bl
 refine wS true 3 0 (.agg #[.slice aj L.Memory.length ae, .slice ak L.Copy.length af, .slice al L.Dirty.length ag]) 5 [.slice aj L.Memory.length ae, .slice ak L.Copy.length af, .slice al L.Dirty.length ag] bl rfl ?_
 intro bd bm
 refine wR 1 [(1, .slice l h.length m), (2, iv j), (6, pB i 0), (9, pB q 0), (10, iv 0)] bd (W_nil (N_then (G_seq (G_seq (G_region (wR 3 [(2, iv j), (6, pB i 0), (9, pB q 0), (10, iv 0), (21, .slice l h.length m), (22, iv (h.length : Int)), (23, iv 0)] bd (W_nil (N_then ?_))))))))
 obtain ⟨c, b8, bt⟩ := gx_bind hm
 refine G_meet (fun a w' => ∃ (y : Option Addr), ∃ (t : Nat), ∃ (Y : Seg), ∃ (z : Option Addr), ∃ (u : Nat), ∃ (Z : Seg), ∃ (A : Option Addr), ∃ (x : Nat), ∃ (aa : Seg), ownS Gx.encI c.2.1 y t Y ∧ ownS Gx.encI c.2.2.1 z u Z ∧ ownS Gx.encB c.2.2.2 A x aa ∧ Mem [] w w' [[(i, .cells ⟨[.slice none 0 0, .slice none 0 0, .slice none 0 0]⟩ 28 (0, 0))], [(q, .cells ⟨[.slice y c.2.1.length t, .slice z c.2.2.1.length u, .slice A c.2.2.2.length x]⟩ 28 (0, 0))], Y, Z, aa] ∧ Sat Try.f41.ntmps [(6, pB i 0), (9, pB q 0), (10, iv c.1)] a) ?_ ?_
 ·refine G_block (G_while (σ := Int × Int × List Int × List Int × List Bool) (ρ := Int × List Int × List Int × List Bool) (fun f a w' => ∃ (R : Option Addr), ∃ (O : Nat), ∃ (U : Seg), ∃ (S : Option Addr), ∃ (P : Nat), ∃ (V : Seg), ∃ (T : Option Addr), ∃ (Q : Nat), ∃ (W : Seg), ownS Gx.encI f.2.2.1 R O U ∧ ownS Gx.encI f.2.2.2.1 S P V ∧ ownS Gx.encB f.2.2.2.2 T Q W ∧ Mem [] w w' [[(i, .cells ⟨[.slice none 0 0, .slice none 0 0, .slice none 0 0]⟩ 28 (0, 0))], [(q, .cells ⟨[.slice R f.2.2.1.length O, .slice S f.2.2.2.1.length P, .slice T f.2.2.2.2.length Q]⟩ 28 (0, 0))], U, V, W] ∧ Sat Try.f41.ntmps [(2, iv j), (6, pB i 0), (9, pB q 0), (10, iv f.1), (21, .slice l h.length m), (22, iv (h.length : Int)), (23, iv f.2.1)] a) b8 (fun a ha => ⟨aj, ae, ce, ak, af, cf, al, ag, cg, bu, bv, bw, bm.pk [1, 5, 2, 3, 4], ha.s⟩) ?_)
  clear hm
  intro f cr hm b4 cm N ⟨R, O, U, S, P, V, T, Q, W, az, a0, a3, H, br⟩
  refine G_use br (G_seq (G_region (wR 1 [(2, iv j), (6, pB i 0), (9, pB q 0), (10, iv f.1), (21, .slice l h.length m), (22, iv (h.length : Int)), (23, iv f.2.1), (24, .bool (decide (f.2.1 < (h.length : Int))))] N (W_nil (N_then (G_seq ?_))))))
  rcases gx_bif hm with ⟨ai, hm⟩ | ⟨ai, hm⟩
  ·refine gT ai (G_skip (N_then (G_seq (G_block (G_seq (G_region ?_))))))
   obtain ⟨I, b9, hm⟩ := gx_bind hm
   obtain ⟨ct, a5, a4, ay⟩ := id ax
   obtain ⟨n, X⟩ := gxIdx_fst a5 b9
   refine wV (elemP l (f.2.1.toNat * 1)) N (eI (a4.mem0 H) (len_fst a5) X) (wV (.slice ((n 0).1) I.length ((n 0).2)) N (eE false 1 0 (f.2.1.toNat * 1) (a4.mem0 H) X) (wR 1 [(2, iv j), (6, pB i 0), (9, pB q 0), (10, iv f.1), (12, .slice ((n 0).1) I.length ((n 0).2)), (21, .slice l h.length m), (22, iv (h.length : Int)), (23, iv f.2.1)] N (W_nil (N_then (G_region (wR 3 [(2, iv j), (6, pB i 0), (9, pB q 0), (10, iv f.1), (21, .slice l h.length m), (22, iv (h.length : Int)), (23, iv f.2.1), (27, iv f.1), (28, .slice ((n 0).1) I.length ((n 0).2)), (29, iv j)] N ?_))))))
   obtain ⟨a9, b7, hm⟩ := gx_bind hm
   refine wC 81 #[pB q 0, .slice ((n 0).1) I.length ((n 0).2), iv j] ((c_i_Copying_roundWith N (⟨f.2.2.1, f.2.2.2.1, f.2.2.2.2⟩ : Copying) R O U az S P V a0 T Q W a3 q I ((n 0).1) ((n 0).2) ((ay.mem0 H).at_ X 0 ⟨Store, encStore, I, (n 0).1, (n 0).2⟩ (by kernel_rfl)) j (H.hasPick [1, 2, 3, 4]) (H.nodupPick [1, 2, 3, 4] (by kernel_rfl)) ((apartI.old0 ay H [1, 2, 3, 4]).at_ X 0 ⟨Store, encStore, I, (n 0).1, (n 0).2⟩ (by kernel_rfl)) b7).mono ?_)
   rintro e_ be ⟨ca, bo, ch, cb, bp, ci, cc, bq, cj, rfl, b1, b2, b3, bi⟩
   have bn := H.callF' [1, 2, 3, 4] [0] (by kernel_rfl) bi
   refine ⟨_, rfl, ?_⟩
   refine wR 2 [(2, iv j), (6, pB i 0), (9, pB q 0), (10, iv (w64 (f.1 + a9.1))), (21, .slice l h.length m), (22, iv (h.length : Int)), (23, iv f.2.1)] be (W_nil (N_block (N_then (G_region (wR 2 [(2, iv j), (6, pB i 0), (9, pB q 0), (10, iv (w64 (f.1 + a9.1))), (21, .slice l h.length m), (22, iv (h.length : Int)), (23, iv (w64 (f.2.1 + 1)))] be (W_nil ?_))))))
   obtain rfl := Option.some.inj hm
   exact N_loop fun a ha => ⟨_, rfl, ca, bo, ch, cb, bp, ci, cc, bq, cj, b1, b2, b3, bn.pk [0, 1, 2, 3, 4], ha.s⟩
  refine gF ai (G_exit (N_then_exit (N_then_exit (N_block_eq ?_))))
  obtain rfl := Option.some.inj hm
  obtain rfl := b4 _ rfl
  exact N_meet fun a ha => ⟨R, O, U, S, P, V, T, Q, W, az, a0, a3, H.pk [0, 1, 2, 3, 4], ha.s⟩
 intro cn bf ⟨y, t, Y, z, u, Z, A, x, aa, bx, bz, b0, an, bs⟩
 refine N_use bs ?_
 have hm := bt
 refine N_then (G_seq (G_region (wV (.agg #[.slice y c.2.1.length t, .slice z c.2.2.1.length u, .slice A c.2.2.2.length x]) bf (eL true 3 0 (an.blk 1 rfl)) (wR 1 [(6, pB i 0), (33, .agg #[.slice y c.2.1.length t, .slice z c.2.2.1.length u, .slice A c.2.2.2.length x]), (34, iv c.1)] bf (wS true 3 0 (.agg #[.slice y c.2.1.length t, .slice z c.2.2.1.length u, .slice A c.2.2.2.length x]) 0 [.slice y c.2.1.length t, .slice z c.2.2.1.length u, .slice A c.2.2.2.length x] an rfl ?_)))))
 intro cl ao
 refine wR 2 [(6, pB i 0), (7, iv c.1), (8, .bool true)] cl (W_nil (N_then (G_ret ?_)))
 obtain rfl := Option.some.inj hm
 exact N_ret [.agg #[.slice y c.2.1.length t, .slice z c.2.2.1.length u, .slice A c.2.2.2.length x], iv c.1, .bool true] (RVs_cons (RV_cell (g := true) (k := 3) (b := i) (off := 0) (cs := [.slice y c.2.1.length t, .slice z c.2.2.1.length u, .slice A c.2.2.2.length x]) (e := 28) (fr := (0, 0)) (v := .agg #[.slice y c.2.1.length t, .slice z c.2.2.1.length u, .slice A c.2.2.2.length x]) (ao.blk 0 (b := i) (o := .cells ⟨[.slice y c.2.1.length t, .slice z c.2.2.1.length u, .slice A c.2.2.2.length x]⟩ 28 (0, 0)) (by kernel_rfl)) (by kernel_rfl) (by kernel_rfl) (by kernel_rfl)) (rC (rC RVs_nil))) (⟨y, t, Y, z, u, Z, A, x, aa, rfl, bx, bz, b0, ao.pk [2, 3, 4]⟩)
theorem c_l_markStoreS (w : World) (h : List Store) (c : Option Addr) (f : Nat) (g : Seg) (J : ownS encStore h c f g) (u : Int) (hA : ∀ q ∈ List.flatten [g], w.heap[q.1]? = some q.2) (hN : (idsOf [g]).Nodup) {r : Int × (List Store)} (hm : M.l_markStoreS h u = some r) :
  Calls Try.prog 83 #[.slice c h.length f, iv u] w fun e w' => ∃ (B : Seg), e = .returned (iv r.1) ∧ ownS encStore r.2 c f B ∧ r.2.length = h.length ∧ Mem (idsOf [g]) w w' [B] := by
 unfold M.l_markStoreS at hm
 refine cE Try.func83 ?_
 have M0 := Mem.start' w [g] hA hN
 refine G_seq (G_region (wR 1 [(0, .slice c h.length f), (1, iv u)] w (W_nil (N_then (G_seq (G_seq (G_region (wR 1 [(0, .slice c h.length f), (1, iv u), (5, iv 0)] w (W_nil (N_then ?_))))))))))
 obtain ⟨i, O, I⟩ := gx_bind hm
 refine G_meet (fun a w' => ∃ (n : Seg), ownS encStore i.2 c f n ∧ i.2.length = h.length ∧ Mem (idsOf [g]) w w' [n] ∧ Sat Try.f83.ntmps [(1, iv i.1)] a) ?_ ?_
 ·refine G_block (G_while (σ := Int × Int × List Store) (ρ := Int × List Store) (fun b a w' => ∃ (m : Seg), ownS encStore b.2.2 c f m ∧ b.2.2.length = h.length ∧ Mem (idsOf [g]) w w' [m] ∧ Sat Try.f83.ntmps [(0, .slice c b.2.2.length f), (1, iv b.1), (5, iv b.2.1)] a) O (fun a ha => ⟨g, J, rfl, M0.pk [0], ha.s⟩) ?_)
  clear hm
  intro b W hm N S o ⟨m, k, A, j, F⟩
  refine G_use F (G_seq (G_seq (G_region (wR 4 [(0, .slice c b.2.2.length f), (1, iv b.1), (5, iv b.2.1), (9, .bool (decide (b.2.1 < (b.2.2.length : Int))))] o (W_nil (N_then ?_))))))
  rcases gx_bif hm with ⟨x, hm⟩ | ⟨x, hm⟩
  ·refine gT x (G_skip (N_then (G_seq (G_block (G_seq (G_region (wR 3 [(0, .slice c b.2.2.length f), (1, iv b.1), (5, iv b.2.1), (12, .slice c b.2.2.length f), (13, iv b.2.1), (14, iv b.1)] o ?_)))))))
   obtain ⟨d, l, hm⟩ := gx_bind hm
   refine wV (elemP c (b.2.1.toNat * 2)) o (eI (k.rd j 0 (by kernel_rfl)) rfl l) (wV (elemP c (b.2.1.toNat * 2 + 0)) o (eF 0 (b.2.1.toNat * 2) 0 (k.rd j 0 (by kernel_rfl)) l) (wE false 1 b.2.1.toNat 0 (b.2.1.toNat * 2 + 0) d (⟨b.1, d.Value⟩ : Store) (iv b.1) 0 j k (gxIdx_spec l).2 ?_))
   intro t V y v
   have z := gxIdx_put (⟨b.1, d.Value⟩ : Store) l
   refine wX 0 (.slice c b.2.2.length f) (.slice c (b.2.2.set b.2.1.toNat (⟨b.1, d.Value⟩ : Store)).length f) (by rw [@List.length_set _ b.2.2 b.2.1.toNat (⟨b.1, d.Value⟩ : Store)]) (wX 12 (.slice c b.2.2.length f) (.slice c (b.2.2.set b.2.1.toNat (⟨b.1, d.Value⟩ : Store)).length f) (by rw [@List.length_set _ b.2.2 b.2.1.toNat (⟨b.1, d.Value⟩ : Store)]) (W_nil (N_then (G_seq (G_region (wR 3 [(0, .slice c (b.2.2.set b.2.1.toNat (⟨b.1, d.Value⟩ : Store)).length f), (1, iv (w64 (b.1 + 1))), (5, iv b.2.1)] t (W_nil (N_then (G_seq (G_region (wR 3 [(0, .slice c (b.2.2.set b.2.1.toNat (⟨b.1, d.Value⟩ : Store)).length f), (1, iv (w64 (b.1 + 1))), (5, iv b.2.1), (19, .slice c (b.2.2.set b.2.1.toNat (⟨b.1, d.Value⟩ : Store)).length f), (20, iv b.2.1), (21, iv (w64 (b.1 + 1)))] t ?_)))))))))))
   obtain ⟨X, P, hm⟩ := gx_bind hm
   refine wV (elemP c (b.2.1.toNat * 2)) t (eI (y.rd v 0 (by kernel_rfl)) rfl P) (wV (elemP c (b.2.1.toNat * 2 + 1)) t (eF 1 (b.2.1.toNat * 2) 1 (y.rd v 0 (by kernel_rfl)) z) (wE false 1 b.2.1.toNat 1 (b.2.1.toNat * 2 + 1) (⟨b.1, d.Value⟩ : Store) (⟨(⟨b.1, d.Value⟩ : Store).Word, w64 (b.1 + 1)⟩ : Store) (iv (w64 (b.1 + 1))) 0 v y (gxIdx_spec z).2 ?_))
   intro C Q L D
   have U := gxIdx_put (⟨(⟨b.1, d.Value⟩ : Store).Word, w64 (b.1 + 1)⟩ : Store) z
   refine wX 0 (.slice c (b.2.2.set b.2.1.toNat (⟨b.1, d.Value⟩ : Store)).length f) (.slice c ((b.2.2.set b.2.1.toNat (⟨b.1, d.Value⟩ : Store)).set b.2.1.toNat (⟨(⟨b.1, d.Value⟩ : Store).Word, w64 (b.1 + 1)⟩ : Store)).length f) (by rw [@List.length_set _ (b.2.2.set b.2.1.toNat (⟨b.1, d.Value⟩ : Store)) b.2.1.toNat (⟨(⟨b.1, d.Value⟩ : Store).Word, w64 (b.1 + 1)⟩ : Store)]) (wX 19 (.slice c (b.2.2.set b.2.1.toNat (⟨b.1, d.Value⟩ : Store)).length f) (.slice c ((b.2.2.set b.2.1.toNat (⟨b.1, d.Value⟩ : Store)).set b.2.1.toNat (⟨(⟨b.1, d.Value⟩ : Store).Word, w64 (b.1 + 1)⟩ : Store)).length f) (by rw [@List.length_set _ (b.2.2.set b.2.1.toNat (⟨b.1, d.Value⟩ : Store)) b.2.1.toNat (⟨(⟨b.1, d.Value⟩ : Store).Word, w64 (b.1 + 1)⟩ : Store)]) (W_nil (N_then (G_region (wR 3 [(0, .slice c ((b.2.2.set b.2.1.toNat (⟨b.1, d.Value⟩ : Store)).set b.2.1.toNat (⟨(⟨b.1, d.Value⟩ : Store).Word, w64 (b.1 + 1)⟩ : Store)).length f), (1, iv (w64 ((w64 (b.1 + 1)) + 1))), (5, iv b.2.1)] C (W_nil (N_block (N_then (G_region (wR 3 [(0, .slice c ((b.2.2.set b.2.1.toNat (⟨b.1, d.Value⟩ : Store)).set b.2.1.toNat (⟨(⟨b.1, d.Value⟩ : Store).Word, w64 (b.1 + 1)⟩ : Store)).length f), (1, iv (w64 ((w64 (b.1 + 1)) + 1))), (5, iv (w64 (b.2.1 + 1)))] C (W_nil ?_)))))))))))
   obtain rfl := Option.some.inj hm
   exact N_loop fun a ha => ⟨_, rfl, Q, L, (List.length_set.trans (List.length_set.trans A)), D.pk [0], ha.s⟩
  refine gF x (G_exit (N_then_exit (N_then_exit (N_block_eq ?_))))
  obtain rfl := Option.some.inj hm
  obtain rfl := N _ rfl
  exact N_meet fun a ha => ⟨m, k, A, j.pk [0], ha.s⟩
 intro T R ⟨n, K, H, E, G⟩
 refine N_use G ?_
 have hm := I
 refine N_then (G_seq (G_region (wR 2 [(4, iv i.1)] R (W_nil (N_then (G_ret ?_))))))
 obtain rfl := Option.some.inj hm
 exact N_ret [iv i.1] (rC RVs_nil) (⟨n, rfl, K, H, E.pk [0]⟩)
theorem c_l_markStoreSS (w : World) (l : List (List Store)) (d : Option Addr) (f : Nat) (h : Seg) (j : Seg) (ab : ownD (deepL encStore) l d f h j) (E : Int) (hA : ∀ q ∈ List.flatten [h, j], w.heap[q.1]? = some q.2) (hN : (idsOf [h, j]).Nodup) {r : Int × (List (List Store))} (hm : M.l_markStoreSS l E = some r) :
  Calls Try.prog 42 #[.slice d l.length f, iv E] w fun e w' => ∃ (L : Seg) (N : Seg), e = .returned (iv r.1) ∧ ownD (deepL encStore) r.2 d f L N ∧ r.2.length = l.length ∧ Mem (idsOf [h, j]) w w' [L, N] := by
 unfold M.l_markStoreSS at hm
 refine cE Try.func42 ?_
 have M0 := Mem.start' w [h, j] hA hN
 refine G_seq (G_region (wR 1 [(0, .slice d l.length f), (1, iv E)] w (W_nil (N_then (G_seq (G_seq (G_region (wR 1 [(0, .slice d l.length f), (1, iv E), (5, iv 0)] w (W_nil (N_then ?_))))))))))
 obtain ⟨t, al, aa⟩ := gx_bind hm
 refine G_meet (fun a w' => ∃ (A : Seg), ∃ (B : Seg), ownD (deepL encStore) t.2 d f A B ∧ t.2.length = l.length ∧ Mem (idsOf [h, j]) w w' [A, B] ∧ Sat Try.f42.ntmps [(1, iv t.1)] a) ?_ ?_
 ·refine G_block (G_while (σ := Int × Int × List (List Store)) (ρ := Int × List (List Store)) (fun b a w' => ∃ (k : Seg), ∃ (z : Seg), ownD (deepL encStore) b.2.2 d f k z ∧ b.2.2.length = l.length ∧ Mem (idsOf [h, j]) w w' [k, z] ∧ Sat Try.f42.ntmps [(0, .slice d b.2.2.length f), (1, iv b.1), (5, iv b.2.1)] a) al (fun a ha => ⟨h, j, ab, rfl, M0.pk [0, 1], ha.s⟩) ?_)
  clear hm
  intro b aw hm ag aq m ⟨k, z, K, J, x, V⟩
  refine G_use V (G_seq (G_seq (G_region (wR 4 [(0, .slice d b.2.2.length f), (1, iv b.1), (5, iv b.2.1), (9, .bool (decide (b.2.1 < (b.2.2.length : Int))))] m (W_nil (N_then ?_))))))
  rcases gx_bif hm with ⟨G, hm⟩ | ⟨G, hm⟩
  ·refine gT G (G_skip (N_then (G_seq (G_block (G_region (wR 2 [(0, .slice d b.2.2.length f), (1, iv b.1), (5, iv b.2.1), (12, .slice d b.2.2.length f), (13, iv b.2.1)] m ?_))))))
   obtain ⟨n, am, hm⟩ := gx_bind hm
   obtain ⟨ax, y, I, Y⟩ := id K
   obtain ⟨c, o⟩ := gxIdx_fst y am
   refine wV (elemP d (b.2.1.toNat * 1)) m (eI (I.rd x 0 (by kernel_rfl)) (len_fst y) o) (wV (.slice ((c 0).1) n.length ((c 0).2)) m (eE false 1 0 (b.2.1.toNat * 1) (I.rd x 0 (by kernel_rfl)) o) (wR 1 [(0, .slice d b.2.2.length f), (1, iv b.1), (5, iv b.2.1), (15, .slice ((c 0).1) n.length ((c 0).2)), (16, iv b.1)] m ?_))
   obtain ⟨u, ao, v, aj, X, ah⟩ := Y.lens (gxIdx_spec o).2
   have Q := x.cut 1 (sa := u) (sb := ao) (sc := v) aj (by kernel_rfl)
   obtain ⟨O, an, ak, ad, av⟩ := X
   have F := Q.cut 2 (sa := []) (sb := O) (sc := an) ak (by kernel_rfl)
   obtain ⟨g, ai, hm⟩ := gx_bind hm
   refine wC 83 #[.slice ((c 0).1) n.length ((c 0).2), iv b.1] ((c_l_markStoreS m n ((c 0).1) ((c 0).2) O ad b.1 (F.hasPick [4]) (F.nodupPick [4] (by kernel_rfl)) ai).mono ?_)
   rintro e_ D ⟨C, rfl, ae, H, P⟩
   have R := F.callF' [4] [0, 1, 2, 3, 5] (by kernel_rfl) P
   refine ⟨_, rfl, ?_⟩
   refine wX 15 (.slice ((c 0).1) n.length ((c 0).2)) (.slice ((c 0).1) g.2.length ((c 0).2)) (by first | rw [H] | rw [H]) ?_
   have S : Mem (idsOf [h, j]) w D [k, [], u, C, v] := R.pk [0, 2, 1, 5, 3]
   have T : Mem (idsOf [h, j]) w D [k, [], (u ++ ((C ++ []) ++ v))] := S.regroup (by simp)
   have af : ownD (deepL encStore) (b.2.2.set b.2.1.toNat g.2) d f k (u ++ ((C ++ []) ++ v)) := ⟨_, set_fst y b.2.1.toNat (g.2, c), (I.setSame (z' := (g.2, c)) (gxIdx_spec o).2 (by show ([.slice ((c 0).1) g.2.length ((c 0).2)] : List Value) = [.slice ((c 0).1) n.length ((c 0).2)]; rw [H])), ah (g.2, c) _ (ownI_cons (i := ⟨Store, encStore, _, _, _⟩) ae ownI_nil)⟩
   have au := gxIdx_put g.2 (gxIdx_down y o)
   refine wX 0 (.slice d b.2.2.length f) (.slice d (b.2.2.set b.2.1.toNat g.2).length f) (by rw [@List.length_set _ b.2.2 b.2.1.toNat g.2]) (wR 1 [(0, .slice d (b.2.2.set b.2.1.toNat g.2).length f), (1, iv g.1), (5, iv b.2.1)] D (W_nil (N_block (N_then (G_region (wR 3 [(0, .slice d (b.2.2.set b.2.1.toNat g.2).length f), (1, iv g.1), (5, iv (w64 (b.2.1 + 1)))] D (W_nil ?_)))))))
   obtain rfl := Option.some.inj hm
   exact N_loop fun a ha => ⟨_, rfl, k, (u ++ ((C ++ []) ++ v)), af, (List.length_set.trans J), T.pk [0, 2], ha.s⟩
  refine gF G (G_exit (N_then_exit (N_then_exit (N_block_eq ?_))))
  obtain rfl := Option.some.inj hm
  obtain rfl := ag _ rfl
  exact N_meet fun a ha => ⟨k, z, K, J, x.pk [0, 1], ha.s⟩
 intro ar ap ⟨A, B, ac, Z, U, W⟩
 refine N_use W ?_
 have hm := aa
 refine N_then (G_seq (G_region (wR 2 [(4, iv t.1)] ap (W_nil (N_then (G_ret ?_))))))
 obtain rfl := Option.some.inj hm
 exact N_ret [iv t.1] (rC RVs_nil) (⟨A, B, rfl, ac, Z, U.pk [0, 1]⟩)
theorem c_l_FnExactRunRounds (w : World) (d : Copying) (H : Option Addr) (D : Nat) (bq : rdS Gx.encI w d.Memory H D) (I : Option Addr) (E : Nat) (br : rdS Gx.encI w d.Copy I E) (J : Option Addr) (F : Nat) (bs : rdS Gx.encB w d.Dirty J F) (g : List (List Store)) (l : Option Addr) (k : Nat) (bt : rdD (deepL encStore) w g l k) (m : Int) {r : Bool} (hm : M.l_FnExactRunRounds d g m = some r) :
  Calls Try.prog 10 #[.agg #[.slice H d.Memory.length D, .slice I d.Copy.length E, .slice J d.Dirty.length F], .slice l g.length k, iv m] w fun e w' => e = .returned (.bool r) ∧ Mem [] w w' [] := by
 unfold M.l_FnExactRunRounds at hm
 refine cE Try.func10 ?_
 have M0 := Mem.refl [] w
 refine G_seq (G_region (wN (.cells ⟨[.slice H d.Memory.length D, .slice I d.Copy.length E, .slice J d.Dirty.length F]⟩ 25 (0, 0)) M0 ?_))
 intro o bw bj
 refine wR 1 [(1, .slice l g.length k), (2, iv m), (3, pB o 0)] bw (W_nil (N_then (G_seq (G_region (wR 1 [(1, .slice l g.length k), (2, iv m), (3, pB o 0), (7, iv 1048576)] bw (W_nil (N_then (G_seq (G_region (wV (.agg #[.slice H d.Memory.length D, .slice I d.Copy.length E, .slice J d.Dirty.length F]) bw (eL true 3 0 (bj.blk 0 rfl)) (wR 1 [(1, .slice l g.length k), (2, iv m), (3, pB o 0), (7, iv 1048576), (22, .agg #[.slice H d.Memory.length D, .slice I d.Copy.length E, .slice J d.Dirty.length F]), (23, iv 1048576)] bw ?_)))))))))))
 obtain ⟨aw, gl, hm⟩ := gx_bind hm
 refine wC 13 #[.agg #[.slice H d.Memory.length D, .slice I d.Copy.length E, .slice J d.Dirty.length F], iv 1048576] ((c_l_szCopying bw d H D (bq.mem0 bj) I E (br.mem0 bj) J F (bs.mem0 bj) 1048576 gl).mono ?_)
 rintro e_ bx ⟨rfl, e1⟩
 have ct := bj.call0 e1
 refine ⟨_, rfl, ?_⟩
 refine wR 1 [(1, .slice l g.length k), (2, iv m), (3, pB o 0), (7, iv aw)] bx (W_nil (N_then (G_seq (G_seq (G_region (wR 2 [(1, .slice l g.length k), (2, iv m), (3, pB o 0), (7, iv aw), (26, .bool (decide (aw < 0)))] bx (W_nil (N_then ?_))))))))
 rcases gx_bif hm with ⟨c4, hm⟩ | ⟨c4, hm⟩
 ·refine gT c4 (G_seq (G_region (wR 1 [(6, .bool true)] bx (W_nil (N_then (G_ret (N_then_ret ?_)))))))
  obtain rfl := Option.some.inj hm
  exact N_ret [.bool true] (rC RVs_nil) (⟨rfl, ct.pk []⟩)
 refine gF c4 (G_skip (N_then (G_seq (G_region (wR 2 [(1, .slice l g.length k), (2, iv m), (3, pB o 0), (7, iv aw), (27, .slice l g.length k), (28, iv aw)] bx ?_)))))
 obtain ⟨er, gm, hm⟩ := gx_bind hm
 refine wC 35 #[.slice l g.length k, iv aw] ((c_l_szStoreSS bx g l k (bt.mem0 ct) aw gm).mono ?_)
 rintro e_ bz ⟨rfl, e2⟩
 have ay := ct.call0 e2
 refine ⟨_, rfl, ?_⟩
 refine wR 1 [(1, .slice l g.length k), (2, iv m), (3, pB o 0), (7, iv er)] bz (W_nil (N_then (G_seq (G_seq (G_region (wR 2 [(1, .slice l g.length k), (2, iv m), (3, pB o 0), (31, .bool (decide (er < 0)))] bz (W_nil (N_then ?_))))))))
 rcases gx_bif hm with ⟨c5, hm⟩ | ⟨c5, hm⟩
 ·refine gT c5 (G_seq (G_region (wR 1 [(6, .bool true)] bz (W_nil (N_then (G_ret (N_then_ret ?_)))))))
  obtain rfl := Option.some.inj hm
  exact N_ret [.bool true] (rC RVs_nil) (⟨rfl, ay.pk []⟩)
 refine gF c5 (G_skip (N_then (G_seq (G_region (wV (.agg #[.slice H d.Memory.length D, .slice I d.Copy.length E, .slice J d.Dirty.length F]) bz (eL true 3 0 (ay.blk 0 rfl)) ?_)))))
 obtain ⟨ap, gn, hm⟩ := gx_bind hm
 refine wC 15 #[.agg #[.slice H d.Memory.length D, .slice I d.Copy.length E, .slice J d.Dirty.length F]] ((c_l_toCopying bz d H D (bq.mem0 ay) I E (br.mem0 ay) J F (bs.mem0 ay) gn).mono ?_)
 rintro e_ ew ⟨cd, b6, h1, ce, b7, h2, cf, b8, h3, rfl, f6, f7, f8, e3⟩
 have ed := ay.call e3
 refine ⟨_, rfl, ?_⟩
 refine wR 1 [(1, .slice l g.length k), (2, iv m), (3, pB o 0), (34, .agg #[.slice cd ap.Memory.length b6, .slice ce ap.Copy.length b7, .slice cf ap.Dirty.length b8]), (35, .slice l g.length k)] ew ?_
 obtain ⟨d8, go, hm⟩ := gx_bind hm
 refine wC 37 #[.slice l g.length k] ((c_l_toStoreSS ew g l k (bt.mem0 ed) go).mono ?_)
 rintro e_ ex ⟨d6, c1, h4, h5, rfl, f9, e4⟩
 have bk := ed.call e4
 refine ⟨_, rfl, ?_⟩
 refine wR 1 [(1, .slice l g.length k), (2, iv m), (3, pB o 0), (34, .agg #[.slice cd ap.Memory.length b6, .slice ce ap.Copy.length b7, .slice cf ap.Dirty.length b8]), (36, .slice d6 d8.length c1), (37, iv m)] ex ?_
 obtain ⟨b, gp, hm⟩ := gx_bind hm
 refine wC 40 #[.agg #[.slice cd ap.Memory.length b6, .slice ce ap.Copy.length b7, .slice cf ap.Dirty.length b8], .slice d6 d8.length c1, iv m] ((c_s_RunRounds ex ap cd b6 (f6.rd bk 1 (by kernel_rfl)) ce b7 (f7.rd bk 2 (by kernel_rfl)) cf b8 (f8.rd bk 3 (by kernel_rfl)) d8 d6 c1 (f9.rd bk 4 (by kernel_rfl) 5 (by kernel_rfl)) m gp).mono ?_)
 rintro e_ hl ⟨aa, X, a9, ab, Y, ba, ac, Z, bb, rfl, dt, du, dv, e5⟩
 have fo := bk.call e5
 refine ⟨_, rfl, ?_⟩
 refine wR 4 [(1, .slice l g.length k), (2, iv m), (3, pB o 0), (39, .agg #[.slice aa b.1.Memory.length X, .slice ab b.1.Copy.length Y, .slice ac b.1.Dirty.length Z]), (40, iv b.2.1), (41, .bool b.2.2)] hl (wN (.cells ⟨[.slice none 0 0, .slice none 0 0, .slice none 0 0]⟩ 28 (0, 0)) fo ?_)
 intro u ii fp
 refine wS true 3 0 (.agg #[.slice aa b.1.Memory.length X, .slice ab b.1.Copy.length Y, .slice ac b.1.Dirty.length Z]) 9 [.slice aa b.1.Memory.length X, .slice ab b.1.Copy.length Y, .slice ac b.1.Dirty.length Z] fp rfl ?_
 intro eb bl
 refine wR 2 [(1, .slice l g.length k), (2, iv m), (3, pB o 0), (8, pB u 0), (9, iv b.2.1), (10, .bool b.2.2)] eb (W_nil (N_then (G_seq (G_region (wV (.agg #[.slice H d.Memory.length D, .slice I d.Copy.length E, .slice J d.Dirty.length F]) eb (eL true 3 0 (bl.blk 0 rfl)) ?_)))))
 obtain ⟨q, gq, hm⟩ := gx_bind hm
 refine wC 15 #[.agg #[.slice H d.Memory.length D, .slice I d.Copy.length E, .slice J d.Dirty.length F]] ((c_l_toCopying eb d H D (bq.mem0 bl) I E (br.mem0 bl) J F (bs.mem0 bl) gq).mono ?_)
 rintro e_ ij ⟨S, O, cl, T, P, cm, U, Q, cn, rfl, dw, dx, dy, e6⟩
 have fq := bl.call e6
 refine ⟨_, rfl, ?_⟩
 refine wN (.cells ⟨[.slice none 0 0, .slice none 0 0, .slice none 0 0]⟩ 28 (0, 0)) fq ?_
 intro V ik fr
 refine wS true 3 0 (.agg #[.slice S q.Memory.length O, .slice T q.Copy.length P, .slice U q.Dirty.length Q]) 13 [.slice S q.Memory.length O, .slice T q.Copy.length P, .slice U q.Dirty.length Q] fr rfl ?_
 intro ey ee
 refine W_nil (N_then (G_seq (G_region (wR 1 [(1, .slice l g.length k), (2, iv m), (3, pB o 0), (8, pB u 0), (9, iv b.2.1), (10, .bool b.2.2), (11, pB V 0), (44, .slice l g.length k)] ey ?_))))
 obtain ⟨L, gr, hm⟩ := gx_bind hm
 refine wC 37 #[.slice l g.length k] ((c_l_toStoreSS ey g l k (bt.mem0 ee) gr).mono ?_)
 rintro e_ co ⟨K, G, bu, bv, rfl, dz, e7⟩
 have az := ee.call e7
 refine ⟨_, rfl, ?_⟩
 refine wR 1 [(1, .slice l g.length k), (2, iv m), (3, pB o 0), (8, pB u 0), (9, iv b.2.1), (10, .bool b.2.2), (11, pB V 0), (12, .slice K L.length G)] co (W_nil (N_then (G_seq (G_region (wV (.agg #[.slice S q.Memory.length O, .slice T q.Copy.length P, .slice U q.Dirty.length Q]) co (eL true 3 0 (az.blk 13 rfl)) (wR 2 [(1, .slice l g.length k), (2, iv m), (3, pB o 0), (8, pB u 0), (9, iv b.2.1), (10, .bool b.2.2), (11, pB V 0), (12, .slice K L.length G), (47, .agg #[.slice S q.Memory.length O, .slice T q.Copy.length P, .slice U q.Dirty.length Q]), (48, .slice K L.length G), (49, iv m)] co ?_))))))
 obtain ⟨c, gs, hm⟩ := gx_bind hm
 refine wC 41 #[.agg #[.slice S q.Memory.length O, .slice T q.Copy.length P, .slice U q.Dirty.length Q], .slice K L.length G, iv m] ((c_i_RunRounds co q S O (dw.rd az 10 (by kernel_rfl)) T P (dx.rd az 11 (by kernel_rfl)) U Q (dy.rd az 12 (by kernel_rfl)) L K G (dz.rd az 14 (by kernel_rfl) 15 (by kernel_rfl)) m gs).mono ?_)
 rintro e_ hn ⟨A, x, bc, B, y, bd, C, z, be, rfl, d0, d1, d2, e8⟩
 have fs := az.call e8
 refine ⟨_, rfl, ?_⟩
 refine wR 4 [(1, .slice l g.length k), (2, iv m), (3, pB o 0), (8, pB u 0), (9, iv b.2.1), (10, .bool b.2.2), (11, pB V 0), (12, .slice K L.length G), (51, .agg #[.slice A c.1.Memory.length x, .slice B c.1.Copy.length y, .slice C c.1.Dirty.length z]), (52, iv c.2.1), (53, .bool c.2.2)] hn (wN (.cells ⟨[.slice none 0 0, .slice none 0 0, .slice none 0 0]⟩ 28 (0, 0)) fs ?_)
 intro t il ft
 refine wS true 3 0 (.agg #[.slice A c.1.Memory.length x, .slice B c.1.Copy.length y, .slice C c.1.Dirty.length z]) 19 [.slice A c.1.Memory.length x, .slice B c.1.Copy.length y, .slice C c.1.Dirty.length z] ft rfl ?_
 intro cp ar
 refine wR 2 [(1, .slice l g.length k), (2, iv m), (3, pB o 0), (8, pB u 0), (9, iv b.2.1), (10, .bool b.2.2), (11, pB V 0), (12, .slice K L.length G), (13, pB t 0), (14, iv c.2.1), (15, .bool c.2.2)] cp (W_nil (N_then (G_seq (G_seq ?_))))
 obtain ⟨eo, ga, f3⟩ := gx_bind hm
 refine G_meet (fun a w' => Mem [] w w' [[(o, .cells ⟨[.slice H d.Memory.length D, .slice I d.Copy.length E, .slice J d.Dirty.length F]⟩ 25 (0, 0))], a9, ba, bb, [(u, .cells ⟨[.slice aa b.1.Memory.length X, .slice ab b.1.Copy.length Y, .slice ac b.1.Dirty.length Z]⟩ 28 (0, 0))], cl, cm, cn, [(V, .cells ⟨[.slice S q.Memory.length O, .slice T q.Copy.length P, .slice U q.Dirty.length Q]⟩ 28 (0, 0))], bu, bv, bc, bd, be, [(t, .cells ⟨[.slice A c.1.Memory.length x, .slice B c.1.Copy.length y, .slice C c.1.Dirty.length z]⟩ 28 (0, 0))]] ∧ Sat Try.f10.ntmps [(1, .slice l g.length k), (2, iv m), (3, pB o 0), (8, pB u 0), (9, iv b.2.1), (10, .bool b.2.2), (11, pB V 0), (12, .slice K L.length G), (13, pB t 0), (14, iv c.2.1), (15, .bool c.2.2), (67, .bool eo)] a) ?_ ?_
 ·have hm := ga
  refine G_region (wV (.agg #[.slice A c.1.Memory.length x, .slice B c.1.Copy.length y, .slice C c.1.Dirty.length z]) cp (eL true 3 0 (ar.blk 19 rfl)) (wV (.agg #[.slice aa b.1.Memory.length X, .slice ab b.1.Copy.length Y, .slice ac b.1.Dirty.length Z]) cp (eL true 3 0 (ar.blk 9 rfl)) ?_))
  obtain ⟨hb, gt, hm⟩ := gx_bind hm
  refine wC 17 #[.agg #[.slice A c.1.Memory.length x, .slice B c.1.Copy.length y, .slice C c.1.Dirty.length z], .agg #[.slice aa b.1.Memory.length X, .slice ab b.1.Copy.length Y, .slice ac b.1.Dirty.length Z]] ((c_l_eqCopying cp c.1 A x (d0.rd ar 16 (by kernel_rfl)) B y (d1.rd ar 17 (by kernel_rfl)) C z (d2.rd ar 18 (by kernel_rfl)) b.1 aa X (dt.rd ar 6 (by kernel_rfl)) ab Y (du.rd ar 7 (by kernel_rfl)) ac Z (dv.rd ar 8 (by kernel_rfl)) gt).mono ?_)
  rintro e_ b0 ⟨rfl, e9⟩
  have cu := ar.call0 e9
  refine ⟨_, rfl, ?_⟩
  refine wR 2 [(1, .slice l g.length k), (2, iv m), (3, pB o 0), (8, pB u 0), (9, iv b.2.1), (10, .bool b.2.2), (11, pB V 0), (12, .slice K L.length G), (13, pB t 0), (14, iv c.2.1), (15, .bool c.2.2), (58, .bool (!hb))] b0 ?_
  rcases gx_bif hm with ⟨c6, hm⟩ | ⟨c6, hm⟩
  ·refine wK 58 true c6 (wR 9 [(1, .slice l g.length k), (2, iv m), (3, pB o 0), (8, pB u 0), (9, iv b.2.1), (10, .bool b.2.2), (11, pB V 0), (12, .slice K L.length G), (13, pB t 0), (14, iv c.2.1), (15, .bool c.2.2), (67, .bool true)] b0 (W_nil ?_))
   obtain rfl := Option.some.inj hm
   exact N_meet fun a ha => ⟨cu.pk [0, 6, 7, 8, 9, 10, 11, 12, 13, 14, 15, 16, 17, 18, 19], ha.s⟩
  refine wK 58 false c6 (wR 5 [(1, .slice l g.length k), (2, iv m), (3, pB o 0), (8, pB u 0), (9, iv b.2.1), (10, .bool b.2.2), (11, pB V 0), (12, .slice K L.length G), (13, pB t 0), (14, iv c.2.1), (15, .bool c.2.2), (63, .bool (c.2.1 != b.2.1))] b0 ?_)
  rcases gx_bif hm with ⟨c7, hm⟩ | ⟨c7, hm⟩
  ·refine wK 63 true c7 (wR 4 [(1, .slice l g.length k), (2, iv m), (3, pB o 0), (8, pB u 0), (9, iv b.2.1), (10, .bool b.2.2), (11, pB V 0), (12, .slice K L.length G), (13, pB t 0), (14, iv c.2.1), (15, .bool c.2.2), (67, .bool true)] b0 (W_nil ?_))
   obtain rfl := Option.some.inj hm
   exact N_meet fun a ha => ⟨cu.pk [0, 6, 7, 8, 9, 10, 11, 12, 13, 14, 15, 16, 17, 18, 19], ha.s⟩
  refine wK 63 false c7 (wR 4 [(1, .slice l g.length k), (2, iv m), (3, pB o 0), (8, pB u 0), (9, iv b.2.1), (10, .bool b.2.2), (11, pB V 0), (12, .slice K L.length G), (13, pB t 0), (14, iv c.2.1), (15, .bool c.2.2), (67, .bool (!(c.2.2 == b.2.2)))] b0 (W_nil ?_))
  obtain rfl := Option.some.inj hm
  exact N_meet fun a ha => ⟨cu.pk [0, 6, 7, 8, 9, 10, 11, 12, 13, 14, 15, 16, 17, 18, 19], ha.s⟩
 intro hu ho ⟨ef, f0⟩
 refine N_use f0 ?_
 have hm := f3
 refine N_then ?_
 rcases gx_bif hm with ⟨c8, hm⟩ | ⟨c8, hm⟩
 ·refine gT c8 (G_seq (G_region (wR 1 [(6, .bool false)] ho (W_nil (N_then (G_ret (N_then_ret ?_)))))))
  obtain rfl := Option.some.inj hm
  exact N_ret [.bool false] (rC RVs_nil) (⟨rfl, ef.pk []⟩)
 refine gF c8 (G_skip (N_then (G_seq (G_seq ?_))))
 obtain ⟨W, gu, hm⟩ := gx_bind hm
 refine G_sub [(1, .slice l g.length k), (2, iv m), (3, pB o 0), (8, pB u 0), (9, iv b.2.1), (10, .bool b.2.2), (11, pB V 0), (12, .slice K L.length G), (13, pB t 0), (14, iv c.2.1), (15, .bool c.2.2), (67, .bool eo)] (by kernel_rfl) (G_dagL 3 [[], [], [1]] [[], [], []] [[], [], []] [[], [], []] [[], [], []] [[], [], []] (fun _ => []) (fun i => ([fun f v s => v = (.agg #[.slice S q.Memory.length O, .slice T q.Copy.length P, .slice U q.Dirty.length Q] : Value) ∧ s = [], fun f v s => v = (.agg #[.slice H d.Memory.length D, .slice I d.Copy.length E, .slice J d.Dirty.length F] : Value) ∧ s = [], fun f v s => ∃ (ag : Option Addr) (ad : Nat) (ak : Seg), ∃ (ah : Option Addr) (ae : Nat) (al : Seg), ∃ (ai : Option Addr) (af : Nat) (am : Seg), v = (.agg #[.slice ag W.Memory.length ad, .slice ah W.Copy.length ae, .slice ai W.Dirty.length af] : Value) ∧ s = (ak ++ (al ++ am)) ∧ ownS Gx.encI W.Memory ag ad ak ∧ ownS Gx.encI W.Copy ah ae al ∧ ownS Gx.encB W.Dirty ai af am] : List ((Nat → Value) → Value → Seg → Prop)).getD i (fun _ _ _ => False)) (fun j f v => ∃ s, (fun i => ([fun f v s => v = (.agg #[.slice S q.Memory.length O, .slice T q.Copy.length P, .slice U q.Dirty.length Q] : Value) ∧ s = [], fun f v s => v = (.agg #[.slice H d.Memory.length D, .slice I d.Copy.length E, .slice J d.Dirty.length F] : Value) ∧ s = [], fun f v s => ∃ (ag : Option Addr) (ad : Nat) (ak : Seg), ∃ (ah : Option Addr) (ae : Nat) (al : Seg), ∃ (ai : Option Addr) (af : Nat) (am : Seg), v = (.agg #[.slice ag W.Memory.length ad, .slice ah W.Copy.length ae, .slice ai W.Dirty.length af] : Value) ∧ s = (ak ++ (al ++ am)) ∧ ownS Gx.encI W.Memory ag ad ak ∧ ownS Gx.encI W.Copy ah ae al ∧ ownS Gx.encB W.Dirty ai af am] : List ((Nat → Value) → Value → Seg → Prop)).getD i (fun _ _ _ => False)) j f v s) [] [0, 2] [2] (fun _ _ _ s h => ⟨s, h⟩) (by kernel_rfl) (by kernel_rfl) (ef.preNil 3) (by kernel_rfl) (by kernel_rfl) (by kernel_rfl) (by kernel_rfl) (allOb_cons ?_ (allOb_cons ?_ (allOb_cons ?_ allOb_nil))) ?_)
 ·intro cc c3
  intro R hp eg
  exact wV (.agg #[.slice S q.Memory.length O, .slice T q.Copy.length P, .slice U q.Dirty.length Q]) hp (eL true 3 0 (eg.blk 8 rfl)) (W_nil (oE (.agg #[.slice S q.Memory.length O, .slice T q.Copy.length P, .slice U q.Dirty.length Q]) [] ⟨by kernel_rfl, rfl⟩ eg))
 ·intro cc c3
  intro R hq eh
  exact wV (.agg #[.slice H d.Memory.length D, .slice I d.Copy.length E, .slice J d.Dirty.length F]) hq (eL true 3 0 (eh.blk 0 rfl)) (W_nil (oE (.agg #[.slice H d.Memory.length D, .slice I d.Copy.length E, .slice J d.Dirty.length F]) [] ⟨by kernel_rfl, rfl⟩ eh))
 ·intro cc c3
  intro v1_ hb1_
  obtain ⟨rfl, _⟩ := hb1_
  intro R hr b5
  refine wC 15 #[.agg #[.slice H d.Memory.length D, .slice I d.Copy.length E, .slice J d.Dirty.length F]] ((c_l_toCopying hr d H D (bq.mem0 b5) I E (br.mem0 b5) J F (bs.mem0 b5) gu).mono ?_)
  rintro e_ im ⟨ag, ad, ak, ah, ae, al, ai, af, am, rfl, d3, d4, d5, fa⟩
  refine ⟨_, rfl, ?_⟩
  exact W_nil (oE (.agg #[.slice ag W.Memory.length ad, .slice ah W.Copy.length ae, .slice ai W.Dirty.length af]) (ak ++ (al ++ am)) ⟨ag, ad, ak, ah, ae, al, ai, af, am, rfl, rfl, d3, d4, d5⟩ (Mem.callMid b5 (fa.permF (by simp))))
 intro cc c3
 intro v0_ hb0_
 obtain ⟨rfl, _⟩ := hb0_
 intro v2_ hb2_
 obtain ⟨ag, ad, ak, ah, ae, al, ai, af, am, rfl, hs2_, d3, d4, d5⟩ := hb2_
 intro ec fu
 have an : Mem [] w ec [[(o, .cells ⟨[.slice H d.Memory.length D, .slice I d.Copy.length E, .slice J d.Dirty.length F]⟩ 25 (0, 0))], a9, ba, bb, [(u, .cells ⟨[.slice aa b.1.Memory.length X, .slice ab b.1.Copy.length Y, .slice ac b.1.Dirty.length Z]⟩ 28 (0, 0))], cl, cm, cn, [(V, .cells ⟨[.slice S q.Memory.length O, .slice T q.Copy.length P, .slice U q.Dirty.length Q]⟩ 28 (0, 0))], bu, bv, bc, bd, be, [(t, .cells ⟨[.slice A c.1.Memory.length x, .slice B c.1.Copy.length y, .slice C c.1.Dirty.length z]⟩ 28 (0, 0))], (cc 2)] := fu
 rw [hs2_] at an
 replace an : Mem [] w ec [[(o, .cells ⟨[.slice H d.Memory.length D, .slice I d.Copy.length E, .slice J d.Dirty.length F]⟩ 25 (0, 0))], a9, ba, bb, [(u, .cells ⟨[.slice aa b.1.Memory.length X, .slice ab b.1.Copy.length Y, .slice ac b.1.Dirty.length Z]⟩ 28 (0, 0))], cl, cm, cn, [(V, .cells ⟨[.slice S q.Memory.length O, .slice T q.Copy.length P, .slice U q.Dirty.length Q]⟩ 28 (0, 0))], bu, bv, bc, bd, be, [(t, .cells ⟨[.slice A c.1.Memory.length x, .slice B c.1.Copy.length y, .slice C c.1.Dirty.length z]⟩ 28 (0, 0))], ak, al, am] := an.permF (by simp)
 obtain ⟨hc, gv, hm⟩ := gx_bind hm
 refine wC 17 #[.agg #[.slice S q.Memory.length O, .slice T q.Copy.length P, .slice U q.Dirty.length Q], .agg #[.slice ag W.Memory.length ad, .slice ah W.Copy.length ae, .slice ai W.Dirty.length af]] ((c_l_eqCopying ec q S O (dw.rd an 5 (by kernel_rfl)) T P (dx.rd an 6 (by kernel_rfl)) U Q (dy.rd an 7 (by kernel_rfl)) W ag ad (d3.rd an 15 (by kernel_rfl)) ah ae (d4.rd an 16 (by kernel_rfl)) ai af (d5.rd an 17 (by kernel_rfl)) gv).mono ?_)
 rintro e_ cq ⟨rfl, fb⟩
 have cv := an.call0 fb
 refine ⟨_, rfl, ?_⟩
 refine wR 1 [(1, .slice l g.length k), (2, iv m), (3, pB o 0), (8, pB u 0), (9, iv b.2.1), (10, .bool b.2.2), (11, pB V 0), (12, .slice K L.length G), (13, pB t 0), (14, iv c.2.1), (15, .bool c.2.2), (72, .bool (!hc))] cq (W_nil (N_then ?_))
 rcases gx_bif hm with ⟨c9, hm⟩ | ⟨c9, hm⟩
 ·refine gT c9 (G_seq (G_region (wR 1 [(6, .bool false)] cq (W_nil (N_then (G_ret (N_then_ret ?_)))))))
  obtain rfl := Option.some.inj hm
  exact N_ret [.bool false] (rC RVs_nil) (⟨rfl, cv.pk []⟩)
 refine gF c9 (G_skip (N_then (G_seq (G_seq (G_region (wR 2 [(1, .slice l g.length k), (2, iv m), (3, pB o 0), (8, pB u 0), (9, iv b.2.1), (10, .bool b.2.2), (11, pB V 0), (12, .slice K L.length G), (13, pB t 0), (14, iv c.2.1), (15, .bool c.2.2), (73, .slice K L.length G), (74, .slice l g.length k)] cq ?_))))))
 obtain ⟨es, gw, hm⟩ := gx_bind hm
 refine wC 37 #[.slice l g.length k] ((c_l_toStoreSS cq g l k (bt.mem0 cv) gw).mono ?_)
 rintro e_ hs ⟨ep, ej, hg, hh, rfl, gb, fc⟩
 have cw := cv.call fc
 refine ⟨_, rfl, ?_⟩
 obtain ⟨hd, gx, hm⟩ := gx_bind hm
 refine wC 39 #[.slice K L.length G, .slice ep es.length ej] ((c_l_eqStoreSS hs L K G (dz.rd cw 9 (by kernel_rfl) 10 (by kernel_rfl)) es ep ej (gb.rd cw 18 (by kernel_rfl) 19 (by kernel_rfl)) gx).mono ?_)
 rintro e_ bf ⟨rfl, fd⟩
 have bm := cw.call0 fd
 refine ⟨_, rfl, ?_⟩
 refine wR 1 [(1, .slice l g.length k), (2, iv m), (3, pB o 0), (8, pB u 0), (9, iv b.2.1), (10, .bool b.2.2), (11, pB V 0), (12, .slice K L.length G), (13, pB t 0), (14, iv c.2.1), (15, .bool c.2.2), (77, .bool (!hd))] bf (W_nil (N_then ?_))
 rcases gx_bif hm with ⟨da, hm⟩ | ⟨da, hm⟩
 ·refine gT da (G_seq (G_region (wR 1 [(6, .bool false)] bf (W_nil (N_then (G_ret (N_then_ret ?_)))))))
  obtain rfl := Option.some.inj hm
  exact N_ret [.bool false] (rC RVs_nil) (⟨rfl, bm.pk []⟩)
 refine gF da (G_skip (N_then (G_seq (G_region (wR 1 [(1, .slice l g.length k), (2, iv m), (3, pB o 0), (8, pB u 0), (9, iv b.2.1), (10, .bool b.2.2), (11, pB V 0), (12, .slice K L.length G), (13, pB t 0), (14, iv c.2.1), (15, .bool c.2.2), (16, iv 1)] bf (W_nil (N_then (G_seq (G_region (wV (.agg #[.slice S q.Memory.length O, .slice T q.Copy.length P, .slice U q.Dirty.length Q]) bf (eL true 3 0 (bm.blk 8 rfl)) (wR 1 [(1, .slice l g.length k), (2, iv m), (3, pB o 0), (8, pB u 0), (9, iv b.2.1), (10, .bool b.2.2), (12, .slice K L.length G), (13, pB t 0), (14, iv c.2.1), (15, .bool c.2.2), (16, iv 1), (78, .agg #[.slice S q.Memory.length O, .slice T q.Copy.length P, .slice U q.Dirty.length Q]), (79, iv 1)] bf ?_)))))))))))
 obtain ⟨aj, gy, hm⟩ := gx_bind hm
 refine wC 23 #[.agg #[.slice S q.Memory.length O, .slice T q.Copy.length P, .slice U q.Dirty.length Q], iv 1] ((c_l_markCopying bf q S O cl dw T P cm dx U Q cn dy 1 (bm.hasPick [5, 6, 7]) (bm.nodupPick [5, 6, 7] (by kernel_rfl)) gy).mono ?_)
 rintro e_ cr ⟨hi, hj, hk, rfl, hx, dm, hy, dn, hz, dp, fe⟩
 have fv := bm.callF' [5, 6, 7] [0, 1, 2, 3, 4, 8, 9, 10, 11, 12, 13, 14, 15, 16, 17, 18, 19] (by kernel_rfl) fe
 refine ⟨_, rfl, ?_⟩
 refine wX 78 (.agg #[.slice S q.Memory.length O, .slice T q.Copy.length P, .slice U q.Dirty.length Q]) (.agg #[.slice S aj.2.1.length O, .slice T aj.2.2.1.length P, .slice U aj.2.2.2.length Q]) (by first | rw [dm, dn, dp] | rw [dm] | rw [dn] | rw [dp]) ?_
 have cx : Mem [] w cr [[(o, .cells ⟨[.slice H d.Memory.length D, .slice I d.Copy.length E, .slice J d.Dirty.length F]⟩ 25 (0, 0))], a9, ba, bb, [(u, .cells ⟨[.slice aa b.1.Memory.length X, .slice ab b.1.Copy.length Y, .slice ac b.1.Dirty.length Z]⟩ 28 (0, 0))], [(V, .cells ⟨[.slice S aj.2.1.length O, .slice T aj.2.2.1.length P, .slice U aj.2.2.2.length Q]⟩ 28 (0, 0))], bu, bv, bc, bd, be, [(t, .cells ⟨[.slice A c.1.Memory.length x, .slice B c.1.Copy.length y, .slice C c.1.Dirty.length z]⟩ 28 (0, 0))], ak, al, am, hg, hh, hi, hj, hk] := by rw [dm, dn, dp]; exact fv
 refine wR 1 [(1, .slice l g.length k), (2, iv m), (3, pB o 0), (8, pB u 0), (9, iv b.2.1), (10, .bool b.2.2), (12, .slice K L.length G), (13, pB t 0), (14, iv c.2.1), (15, .bool c.2.2), (16, iv aj.1)] cr (W_nil (N_then (G_seq (G_region (wR 2 [(1, .slice l g.length k), (2, iv m), (3, pB o 0), (8, pB u 0), (9, iv b.2.1), (10, .bool b.2.2), (13, pB t 0), (14, iv c.2.1), (15, .bool c.2.2), (16, iv aj.1), (81, .slice K L.length G), (82, iv aj.1)] cr ?_)))))
 obtain ⟨d9, gz, hm⟩ := gx_bind hm
 refine wC 42 #[.slice K L.length G, iv aj.1] ((c_l_markStoreSS cr L K G bu bv dz aj.1 (cx.hasPick [6, 7]) (cx.nodupPick [6, 7] (by kernel_rfl)) gz).mono ?_)
 rintro e_ bg ⟨h6, h7, rfl, h0, ek, ff⟩
 have ao := cx.callF' [6, 7] [0, 1, 2, 3, 4, 5, 8, 9, 10, 11, 12, 13, 14, 15, 16, 17, 18, 19] (by kernel_rfl) ff
 refine ⟨_, rfl, ?_⟩
 refine wX 81 (.slice K L.length G) (.slice K d9.2.length G) (by first | rw [ek] | rw [ek]) (wR 1 [(1, .slice l g.length k), (2, iv m), (3, pB o 0), (8, pB u 0), (9, iv b.2.1), (10, .bool b.2.2), (13, pB t 0), (14, iv c.2.1), (15, .bool c.2.2), (16, iv d9.1)] bg (W_nil (N_then (G_seq (G_seq ?_)))))
 obtain ⟨g8, gc, f4⟩ := gx_bind hm
 refine G_meet (fun a w' => Mem [] w w' [[(o, .cells ⟨[.slice H d.Memory.length D, .slice I d.Copy.length E, .slice J d.Dirty.length F]⟩ 25 (0, 0))], a9, ba, bb, [(u, .cells ⟨[.slice aa b.1.Memory.length X, .slice ab b.1.Copy.length Y, .slice ac b.1.Dirty.length Z]⟩ 28 (0, 0))], bc, bd, be, [(t, .cells ⟨[.slice A c.1.Memory.length x, .slice B c.1.Copy.length y, .slice C c.1.Dirty.length z]⟩ 28 (0, 0))]] ∧ Sat Try.f10.ntmps [(1, .slice l g.length k), (2, iv m), (3, pB o 0), (8, pB u 0), (9, iv b.2.1), (10, .bool b.2.2), (13, pB t 0), (101, .bool g8)] a) ?_ ?_
 ·have hm := gc
  refine G_region (wR 3 [(1, .slice l g.length k), (2, iv m), (3, pB o 0), (8, pB u 0), (9, iv b.2.1), (10, .bool b.2.2), (13, pB t 0), (14, iv c.2.1), (15, .bool c.2.2), (86, .bool (decide (d9.1 < 0)))] bg ?_)
  rcases gx_bif hm with ⟨db, hm⟩ | ⟨db, hm⟩
  ·refine wK 86 true db (wR 15 [(1, .slice l g.length k), (2, iv m), (3, pB o 0), (8, pB u 0), (9, iv b.2.1), (10, .bool b.2.2), (13, pB t 0), (101, .bool true)] bg (W_nil ?_))
   obtain rfl := Option.some.inj hm
   exact N_meet fun a ha => ⟨ao.pk [0, 1, 2, 3, 4, 6, 7, 8, 9], ha.s⟩
  refine wK 86 false db (wV (.agg #[.slice A c.1.Memory.length x, .slice B c.1.Copy.length y, .slice C c.1.Dirty.length z]) bg (eL true 3 0 (ao.blk 9 rfl)) (wV (.agg #[.slice aa b.1.Memory.length X, .slice ab b.1.Copy.length Y, .slice ac b.1.Dirty.length Z]) bg (eL true 3 0 (ao.blk 4 rfl)) ?_))
  obtain ⟨he, g0, hm⟩ := gx_bind hm
  refine wC 17 #[.agg #[.slice A c.1.Memory.length x, .slice B c.1.Copy.length y, .slice C c.1.Dirty.length z], .agg #[.slice aa b.1.Memory.length X, .slice ab b.1.Copy.length Y, .slice ac b.1.Dirty.length Z]] ((c_l_eqCopying bg c.1 A x (d0.rd ao 6 (by kernel_rfl)) B y (d1.rd ao 7 (by kernel_rfl)) C z (d2.rd ao 8 (by kernel_rfl)) b.1 aa X (dt.rd ao 1 (by kernel_rfl)) ab Y (du.rd ao 2 (by kernel_rfl)) ac Z (dv.rd ao 3 (by kernel_rfl)) g0).mono ?_)
  rintro e_ b1 ⟨rfl, fg⟩
  have cy := ao.call0 fg
  refine ⟨_, rfl, ?_⟩
  refine wR 3 [(1, .slice l g.length k), (2, iv m), (3, pB o 0), (8, pB u 0), (9, iv b.2.1), (10, .bool b.2.2), (13, pB t 0), (14, iv c.2.1), (15, .bool c.2.2), (92, .bool (!he))] b1 ?_
  rcases gx_bif hm with ⟨dc, hm⟩ | ⟨dc, hm⟩
  ·refine wK 92 true dc (wR 9 [(1, .slice l g.length k), (2, iv m), (3, pB o 0), (8, pB u 0), (9, iv b.2.1), (10, .bool b.2.2), (13, pB t 0), (101, .bool true)] b1 (W_nil ?_))
   obtain rfl := Option.some.inj hm
   exact N_meet fun a ha => ⟨cy.pk [0, 1, 2, 3, 4, 6, 7, 8, 9], ha.s⟩
  refine wK 92 false dc (wR 5 [(1, .slice l g.length k), (2, iv m), (3, pB o 0), (8, pB u 0), (9, iv b.2.1), (10, .bool b.2.2), (13, pB t 0), (15, .bool c.2.2), (97, .bool (c.2.1 != b.2.1))] b1 ?_)
  rcases gx_bif hm with ⟨dd, hm⟩ | ⟨dd, hm⟩
  ·refine wK 97 true dd (wR 4 [(1, .slice l g.length k), (2, iv m), (3, pB o 0), (8, pB u 0), (9, iv b.2.1), (10, .bool b.2.2), (13, pB t 0), (101, .bool true)] b1 (W_nil ?_))
   obtain rfl := Option.some.inj hm
   exact N_meet fun a ha => ⟨cy.pk [0, 1, 2, 3, 4, 6, 7, 8, 9], ha.s⟩
  refine wK 97 false dd (wR 4 [(1, .slice l g.length k), (2, iv m), (3, pB o 0), (8, pB u 0), (9, iv b.2.1), (10, .bool b.2.2), (13, pB t 0), (101, .bool (!(c.2.2 == b.2.2)))] b1 (W_nil ?_))
  obtain rfl := Option.some.inj hm
  exact N_meet fun a ha => ⟨cy.pk [0, 1, 2, 3, 4, 6, 7, 8, 9], ha.s⟩
 intro hv b2 ⟨bn, f1⟩
 refine N_use f1 ?_
 have hm := f4
 refine N_then ?_
 rcases gx_bif hm with ⟨de, hm⟩ | ⟨de, hm⟩
 ·refine gT de (G_seq (G_region (wR 1 [(6, .bool false)] b2 (W_nil (N_then (G_ret (N_then_ret ?_)))))))
  obtain rfl := Option.some.inj hm
  exact N_ret [.bool false] (rC RVs_nil) (⟨rfl, bn.pk []⟩)
 refine gF de (G_skip (N_then (G_seq (G_region (wR 1 [(1, .slice l g.length k), (2, iv m), (3, pB o 0), (8, pB u 0), (9, iv b.2.1), (10, .bool b.2.2), (13, pB t 0), (17, iv 1)] b2 (W_nil (N_then (G_seq (G_region (wV (.agg #[.slice A c.1.Memory.length x, .slice B c.1.Copy.length y, .slice C c.1.Dirty.length z]) b2 (eL true 3 0 (bn.blk 8 rfl)) (wR 1 [(1, .slice l g.length k), (2, iv m), (3, pB o 0), (8, pB u 0), (9, iv b.2.1), (10, .bool b.2.2), (13, pB t 0), (17, iv 1), (102, .agg #[.slice A c.1.Memory.length x, .slice B c.1.Copy.length y, .slice C c.1.Dirty.length z]), (103, iv 1)] b2 ?_)))))))))))
 obtain ⟨n, g1, hm⟩ := gx_bind hm
 refine wC 23 #[.agg #[.slice A c.1.Memory.length x, .slice B c.1.Copy.length y, .slice C c.1.Dirty.length z], iv 1] ((c_l_markCopying b2 c.1 A x bc d0 B y bd d1 C z be d2 1 (bn.hasPick [5, 6, 7]) (bn.nodupPick [5, 6, 7] (by kernel_rfl)) g1).mono ?_)
 rintro e_ bh ⟨et, eu, ev, rfl, el, dq, em, dr, en, ds, fh⟩
 have fw := bn.callF' [5, 6, 7] [0, 1, 2, 3, 4, 8] (by kernel_rfl) fh
 refine ⟨_, rfl, ?_⟩
 refine wX 102 (.agg #[.slice A c.1.Memory.length x, .slice B c.1.Copy.length y, .slice C c.1.Dirty.length z]) (.agg #[.slice A n.2.1.length x, .slice B n.2.2.1.length y, .slice C n.2.2.2.length z]) (by first | rw [dq, dr, ds] | rw [dq] | rw [dr] | rw [ds]) ?_
 have bo : Mem [] w bh [[(o, .cells ⟨[.slice H d.Memory.length D, .slice I d.Copy.length E, .slice J d.Dirty.length F]⟩ 25 (0, 0))], a9, ba, bb, [(u, .cells ⟨[.slice aa b.1.Memory.length X, .slice ab b.1.Copy.length Y, .slice ac b.1.Dirty.length Z]⟩ 28 (0, 0))], [(t, .cells ⟨[.slice A n.2.1.length x, .slice B n.2.2.1.length y, .slice C n.2.2.2.length z]⟩ 28 (0, 0))], et, eu, ev] := by rw [dq, dr, ds]; exact fw
 refine wR 1 [(1, .slice l g.length k), (2, iv m), (3, pB o 0), (8, pB u 0), (9, iv b.2.1), (10, .bool b.2.2), (13, pB t 0), (17, iv n.1)] bh (W_nil (N_then (G_seq (G_region (wR 1 [(1, .slice l g.length k), (2, iv m), (3, pB o 0), (8, pB u 0), (9, iv b.2.1), (10, .bool b.2.2), (13, pB t 0), (17, iv n.1), (18, iv 1)] bh (W_nil (N_then (G_seq (G_region (wV (.agg #[.slice A n.2.1.length x, .slice B n.2.2.1.length y, .slice C n.2.2.2.length z]) bh (eL true 3 0 (bo.blk 5 rfl)) (wR 1 [(1, .slice l g.length k), (2, iv m), (3, pB o 0), (8, pB u 0), (9, iv b.2.1), (10, .bool b.2.2), (13, pB t 0), (17, iv n.1), (18, iv 1), (105, .agg #[.slice A n.2.1.length x, .slice B n.2.2.1.length y, .slice C n.2.2.2.length z]), (106, iv 1)] bh ?_)))))))))))
 obtain ⟨cj, g2, hm⟩ := gx_bind hm
 refine wC 24 #[.agg #[.slice A n.2.1.length x, .slice B n.2.2.1.length y, .slice C n.2.2.2.length z], iv 1] ((c_l_heldCopying bh (⟨n.2.1, n.2.2.1, n.2.2.2⟩ : Copying) A x (el.rd bo 6 (by kernel_rfl)) B y (em.rd bo 7 (by kernel_rfl)) C z (en.rd bo 8 (by kernel_rfl)) 1 g2).mono ?_)
 rintro e_ ax ⟨rfl, fi⟩
 have av := bo.call0 fi
 refine ⟨_, rfl, ?_⟩
 refine wR 1 [(1, .slice l g.length k), (2, iv m), (3, pB o 0), (8, pB u 0), (9, iv b.2.1), (10, .bool b.2.2), (13, pB t 0), (17, iv n.1), (18, iv cj)] ax (W_nil (N_then (G_seq (G_seq (G_region (wR 2 [(1, .slice l g.length k), (2, iv m), (3, pB o 0), (8, pB u 0), (9, iv b.2.1), (10, .bool b.2.2), (13, pB t 0), (17, iv n.1), (18, iv cj), (109, .bool (decide (cj < 0)))] ax (W_nil (N_then ?_))))))))
 rcases gx_bif hm with ⟨df, hm⟩ | ⟨df, hm⟩
 ·refine gT df (G_seq (G_region (wR 1 [(6, .bool false)] ax (W_nil (N_then (G_ret (N_then_ret ?_)))))))
  obtain rfl := Option.some.inj hm
  exact N_ret [.bool false] (rC RVs_nil) (⟨rfl, av.pk []⟩)
 refine gF df (G_skip (N_then (G_seq (G_seq (G_region (wR 3 [(1, .slice l g.length k), (2, iv m), (3, pB o 0), (8, pB u 0), (9, iv b.2.1), (10, .bool b.2.2), (13, pB t 0), (17, iv n.1), (112, .bool (cj != n.1))] ax (W_nil (N_then ?_))))))))
 rcases gx_bif hm with ⟨dg, hm⟩ | ⟨dg, hm⟩
 ·refine gT dg (G_seq (G_region (wR 1 [(6, .bool false)] ax (W_nil (N_then (G_ret (N_then_ret ?_)))))))
  obtain rfl := Option.some.inj hm
  exact N_ret [.bool false] (rC RVs_nil) (⟨rfl, av.pk []⟩)
 refine gF dg (G_skip (N_then (G_seq (G_region (wV (.agg #[.slice H d.Memory.length D, .slice I d.Copy.length E, .slice J d.Dirty.length F]) ax (eL true 3 0 (av.blk 0 rfl)) ?_)))))
 obtain ⟨aq, g3, hm⟩ := gx_bind hm
 refine wC 15 #[.agg #[.slice H d.Memory.length D, .slice I d.Copy.length E, .slice J d.Dirty.length F]] ((c_l_toCopying ax d H D (bq.mem0 av) I E (br.mem0 av) J F (bs.mem0 av) g3).mono ?_)
 rintro e_ ez ⟨cg, b9, h8, ch, ca, h9, ci, cb, ia, rfl, gd, ge, gf, fj⟩
 have ei := av.call fj
 refine ⟨_, rfl, ?_⟩
 refine wR 1 [(2, iv m), (8, pB u 0), (9, iv b.2.1), (10, .bool b.2.2), (13, pB t 0), (17, iv n.1), (115, .agg #[.slice cg aq.Memory.length b9, .slice ch aq.Copy.length ca, .slice ci aq.Dirty.length cb]), (116, .slice l g.length k)] ez ?_
 obtain ⟨ea, g4, hm⟩ := gx_bind hm
 refine wC 37 #[.slice l g.length k] ((c_l_toStoreSS ez g l k (bt.mem0 ei) g4).mono ?_)
 rintro e_ e0 ⟨d7, c2, ib, ic, rfl, gg, fk⟩
 have bp := ei.call fk
 refine ⟨_, rfl, ?_⟩
 refine wR 1 [(8, pB u 0), (9, iv b.2.1), (10, .bool b.2.2), (13, pB t 0), (17, iv n.1), (115, .agg #[.slice cg aq.Memory.length b9, .slice ch aq.Copy.length ca, .slice ci aq.Dirty.length cb]), (117, .slice d7 ea.length c2), (118, iv m)] e0 ?_
 obtain ⟨N, g5, hm⟩ := gx_bind hm
 refine wC 41 #[.agg #[.slice cg aq.Memory.length b9, .slice ch aq.Copy.length ca, .slice ci aq.Dirty.length cb], .slice d7 ea.length c2, iv m] ((c_i_RunRounds e0 aq cg b9 (gd.rd bp 9 (by kernel_rfl)) ch ca (ge.rd bp 10 (by kernel_rfl)) ci cb (gf.rd bp 11 (by kernel_rfl)) ea d7 c2 (gg.rd bp 12 (by kernel_rfl) 13 (by kernel_rfl)) m g5).mono ?_)
 rintro e_ ht ⟨a6, a3, ie, a7, a4, ig, a8, a5, ih, rfl, gh, gi, gj, fl⟩
 have fx := bp.call fl
 refine ⟨_, rfl, ?_⟩
 refine wR 4 [(8, pB u 0), (9, iv b.2.1), (10, .bool b.2.2), (13, pB t 0), (17, iv n.1), (120, .agg #[.slice a6 N.1.Memory.length a3, .slice a7 N.1.Copy.length a4, .slice a8 N.1.Dirty.length a5]), (121, iv N.2.1), (122, .bool N.2.2)] ht (wN (.cells ⟨[.slice none 0 0, .slice none 0 0, .slice none 0 0]⟩ 28 (0, 0)) fx ?_)
 intro fz io fy
 refine wS true 3 0 (.agg #[.slice a6 N.1.Memory.length a3, .slice a7 N.1.Copy.length a4, .slice a8 N.1.Dirty.length a5]) 17 [.slice a6 N.1.Memory.length a3, .slice a7 N.1.Copy.length a4, .slice a8 N.1.Dirty.length a5] fy rfl ?_
 intro cs au
 refine wR 2 [(8, pB u 0), (9, iv b.2.1), (10, .bool b.2.2), (13, pB t 0), (17, iv n.1), (19, pB fz 0), (20, iv N.2.1), (21, .bool N.2.2)] cs (W_nil (N_then (G_seq (G_seq ?_))))
 obtain ⟨g9, gk, f5⟩ := gx_bind hm
 refine G_meet (fun a w' => Mem [] w w' [[(t, .cells ⟨[.slice A n.2.1.length x, .slice B n.2.2.1.length y, .slice C n.2.2.2.length z]⟩ 28 (0, 0))], et, eu, ev] ∧ Sat Try.f10.ntmps [(13, pB t 0), (17, iv n.1), (136, .bool g9)] a) ?_ ?_
 ·have hm := gk
  refine G_region (wV (.agg #[.slice a6 N.1.Memory.length a3, .slice a7 N.1.Copy.length a4, .slice a8 N.1.Dirty.length a5]) cs (eL true 3 0 (au.blk 17 rfl)) (wV (.agg #[.slice aa b.1.Memory.length X, .slice ab b.1.Copy.length Y, .slice ac b.1.Dirty.length Z]) cs (eL true 3 0 (au.blk 4 rfl)) ?_))
  obtain ⟨hf, g6, hm⟩ := gx_bind hm
  refine wC 17 #[.agg #[.slice a6 N.1.Memory.length a3, .slice a7 N.1.Copy.length a4, .slice a8 N.1.Dirty.length a5], .agg #[.slice aa b.1.Memory.length X, .slice ab b.1.Copy.length Y, .slice ac b.1.Dirty.length Z]] ((c_l_eqCopying cs N.1 a6 a3 (gh.rd au 14 (by kernel_rfl)) a7 a4 (gi.rd au 15 (by kernel_rfl)) a8 a5 (gj.rd au 16 (by kernel_rfl)) b.1 aa X (dt.rd au 1 (by kernel_rfl)) ab Y (du.rd au 2 (by kernel_rfl)) ac Z (dv.rd au 3 (by kernel_rfl)) g6).mono ?_)
  rintro e_ b3 ⟨rfl, fm⟩
  have cz := au.call0 fm
  refine ⟨_, rfl, ?_⟩
  refine wR 2 [(9, iv b.2.1), (10, .bool b.2.2), (13, pB t 0), (17, iv n.1), (20, iv N.2.1), (21, .bool N.2.2), (127, .bool (!hf))] b3 ?_
  rcases gx_bif hm with ⟨dh, hm⟩ | ⟨dh, hm⟩
  ·refine wK 127 true dh (wR 9 [(13, pB t 0), (17, iv n.1), (136, .bool true)] b3 (W_nil ?_))
   obtain rfl := Option.some.inj hm
   exact N_meet fun a ha => ⟨cz.pk [5, 6, 7, 8], ha.s⟩
  refine wK 127 false dh (wR 5 [(10, .bool b.2.2), (13, pB t 0), (17, iv n.1), (21, .bool N.2.2), (132, .bool (N.2.1 != b.2.1))] b3 ?_)
  rcases gx_bif hm with ⟨di, hm⟩ | ⟨di, hm⟩
  ·refine wK 132 true di (wR 4 [(13, pB t 0), (17, iv n.1), (136, .bool true)] b3 (W_nil ?_))
   obtain rfl := Option.some.inj hm
   exact N_meet fun a ha => ⟨cz.pk [5, 6, 7, 8], ha.s⟩
  refine wK 132 false di (wR 4 [(13, pB t 0), (17, iv n.1), (136, .bool (!(N.2.2 == b.2.2)))] b3 (W_nil ?_))
  obtain rfl := Option.some.inj hm
  exact N_meet fun a ha => ⟨cz.pk [5, 6, 7, 8], ha.s⟩
 intro hw b4 ⟨a0, f2⟩
 refine N_use f2 ?_
 have hm := f5
 refine N_then ?_
 rcases gx_bif hm with ⟨dj, hm⟩ | ⟨dj, hm⟩
 ·refine gT dj (G_seq (G_region (wR 1 [(6, .bool false)] b4 (W_nil (N_then (G_ret (N_then_ret ?_)))))))
  obtain rfl := Option.some.inj hm
  exact N_ret [.bool false] (rC RVs_nil) (⟨rfl, a0.pk []⟩)
 refine gF dj (G_skip (N_then (G_seq (G_region (wR 1 [(13, pB t 0), (17, iv n.1), (18, iv 1)] b4 (W_nil (N_then (G_seq (G_region (wV (.agg #[.slice A n.2.1.length x, .slice B n.2.2.1.length y, .slice C n.2.2.2.length z]) b4 (eL true 3 0 (a0.blk 0 rfl)) (wR 1 [(17, iv n.1), (18, iv 1), (137, .agg #[.slice A n.2.1.length x, .slice B n.2.2.1.length y, .slice C n.2.2.2.length z]), (138, iv 1)] b4 ?_)))))))))))
 obtain ⟨ck, g7, hm⟩ := gx_bind hm
 refine wC 24 #[.agg #[.slice A n.2.1.length x, .slice B n.2.2.1.length y, .slice C n.2.2.2.length z], iv 1] ((c_l_heldCopying b4 (⟨n.2.1, n.2.2.1, n.2.2.2⟩ : Copying) A x (el.rd a0 1 (by kernel_rfl)) B y (em.rd a0 2 (by kernel_rfl)) C z (en.rd a0 3 (by kernel_rfl)) 1 g7).mono ?_)
 rintro e_ bi ⟨rfl, fn⟩
 have c0 := a0.call0 fn
 refine ⟨_, rfl, ?_⟩
 refine wR 1 [(17, iv n.1), (18, iv ck)] bi (W_nil (N_then (G_seq (G_seq (G_region (wR 2 [(17, iv n.1), (18, iv ck), (141, .bool (decide (ck < 0)))] bi (W_nil (N_then ?_))))))))
 rcases gx_bif hm with ⟨dk, hm⟩ | ⟨dk, hm⟩
 ·refine gT dk (G_seq (G_region (wR 1 [(6, .bool false)] bi (W_nil (N_then (G_ret (N_then_ret ?_)))))))
  obtain rfl := Option.some.inj hm
  exact N_ret [.bool false] (rC RVs_nil) (⟨rfl, c0.pk []⟩)
 refine gF dk (G_skip (N_then (G_seq (G_seq (G_region (wR 3 [(144, .bool (ck != n.1))] bi (W_nil (N_then ?_))))))))
 rcases gx_bif hm with ⟨dl, hm⟩ | ⟨dl, hm⟩
 ·refine gT dl (G_seq (G_region (wR 1 [(6, .bool false)] bi (W_nil (N_then (G_ret (N_then_ret ?_)))))))
  obtain rfl := Option.some.inj hm
  exact N_ret [.bool false] (rC RVs_nil) (⟨rfl, c0.pk []⟩)
 refine gF dl (G_skip (N_then (G_seq (G_region (wR 1 [(6, .bool true)] bi (W_nil (N_then (G_ret ?_))))))))
 obtain rfl := Option.some.inj hm
 exact N_ret [.bool true] (rC RVs_nil) (⟨rfl, c0.pk []⟩)
theorem c_l_vBig (w : World) (a : List Int) (c : Option Addr) (b : Nat) (d : rdS Gx.encU8 w a c b) {r : Bool} (hm : M.l_vBig a = some r) :
  Calls Try.prog 43 #[.slice c a.length b] w fun e w' => e = .returned (.bool r) ∧ Mem [] w w' [] := by
 unfold M.l_vBig at hm
 refine cE Try.func43 ?_
 have M0 := Mem.refl [] w
 refine G_seq (G_region (wR 1 [(0, .slice c a.length b)] w (W_nil (N_then (G_seq (G_region (wR 4 [(2, .bool (decide ((a.length : Int) > 65536)))] w (W_nil (N_then (G_ret ?_))))))))))
 obtain rfl := Option.some.inj hm
 exact N_ret [.bool (decide ((a.length : Int) > 65536))] (rC RVs_nil) (⟨rfl, M0.pk []⟩)
theorem c_s_l1Cur_next (w : World) (b : l1Cur) (d : Option Addr) (g : Nat) (v : rdS Gx.encU8 w b.code d g) (c : Nat) (hA : ∀ q ∈ List.flatten [[(c, .cells ⟨[.slice d b.code.length g, iv b.at_, .int .u64 b.seed]⟩ 99 (0, 0))]], w.heap[q.1]? = some q.2) (hN : (idsOf [[(c, .cells ⟨[.slice d b.code.length g, iv b.at_, .int .u64 b.seed]⟩ 99 (0, 0))]]).Nodup) (x : apartX (idsOf [[(c, .cells ⟨[.slice d b.code.length g, iv b.at_, .int .u64 b.seed]⟩ 99 (0, 0))]]) b.code d) {r : Int × Int × Int} (hm : M.s_l1Cur_next b = some r) :
  Calls Try.prog 103 #[pB c 0] w fun e w' => e = .returned (iv r.1) ∧ Mem (idsOf [[(c, .cells ⟨[.slice d b.code.length g, iv b.at_, .int .u64 b.seed]⟩ 99 (0, 0))]]) w w' [[(c, .cells ⟨[.slice d b.code.length g, iv r.2.1, .int .u64 r.2.2]⟩ 99 (0, 0))]] := by
 unfold M.s_l1Cur_next at hm
 refine cE Try.func103 ?_
 have M0 := Mem.start' w [[(c, .cells ⟨[.slice d b.code.length g, iv b.at_, .int .u64 b.seed]⟩ 99 (0, 0))]] hA hN
 refine G_seq (G_region (wR 1 [(0, pB c 0)] w (W_nil (N_then (G_seq (G_region (wR 1 [(0, pB c 0), (3, iv 0)] w (W_nil (N_then (G_seq (G_seq (G_quiet (by kernel_rfl) (by kernel_rfl) M0 (zR [pB c 0, pB c 0, pB c 1] [(0, pB c 0), (3, iv 0), (6, pB c 1)] (zV (iv b.at_) (fun w_ M_ => (eL false 1 1 (M_.blk 0 rfl))) (zR [pB c 0, pB c 0, pB c 0] [(0, pB c 0), (3, iv 0), (7, iv b.at_), (10, pB c 0)] ?_)))))))))))))))
 refine zV (.slice d b.code.length g) (fun w_ M_ => (eL false 1 0 (M_.blk 0 rfl))) (zR [iv (b.code.length : Int), .bool (decide (b.at_ < (b.code.length : Int)))] [(0, pB c 0), (3, iv 0), (13, .bool (decide (b.at_ < (b.code.length : Int))))] (Z_end fun F o => (N_then ?_)))
 obtain ⟨f, D, C⟩ := gx_bind hm
 refine G_meet (fun a w' => Mem (idsOf [[(c, .cells ⟨[.slice d b.code.length g, iv b.at_, .int .u64 b.seed]⟩ 99 (0, 0))]]) w w' [[(c, .cells ⟨[.slice d b.code.length g, iv b.at_, .int .u64 b.seed]⟩ 99 (0, 0))]] ∧ Sat Try.f103.ntmps [(0, pB c 0), (3, iv f)] a) ?_ ?_
 ·have hm := D
  rcases gx_bif hm with ⟨k, hm⟩ | ⟨k, hm⟩
  ·refine gT k (G_quiet (by kernel_rfl) (by kernel_rfl) o (zR [pB c 0, pB c 0, pB c 0] [(0, pB c 0), (3, iv 0), (16, pB c 0)] (zV (.slice d b.code.length g) (fun w_ M_ => (eL false 1 0 (M_.blk 0 rfl))) (zR [pB c 0, pB c 0, pB c 1] [(0, pB c 0), (3, iv 0), (17, .slice d b.code.length g), (20, pB c 1)] (zV (iv b.at_) (fun w_ M_ => (eL false 1 1 (M_.blk 0 rfl))) ?_)))))
   obtain ⟨i, y, hm⟩ := gx_bind hm
   refine zV (elemP d (b.at_.toNat * 1)) (fun w_ M_ => (eI (v.memX x M_) rfl y)) (zV (.int .u8 i) (fun w_ M_ => (eE false 1 0 (b.at_.toNat * 1) (v.memX x M_) y)) (zR [iv (w64 i), iv (w64 i)] [(0, pB c 0), (3, iv (w64 i))] (Z_end fun G z => ?_)))
   obtain rfl := Option.some.inj hm
   exact N_meet fun a ha => ⟨z.pk [0], ha.s⟩
  refine gF k (G_skip ?_)
  obtain rfl := Option.some.inj hm
  exact N_meet fun a ha => ⟨o.pk [0], ha.s⟩
 intro E m ⟨t, B⟩
 refine N_use B ?_
 have hm := C
 refine N_then (G_seq (G_region (wR 3 [(0, pB c 0), (3, iv f), (25, pB c 0), (27, pB c 1)] m (wV (iv b.at_) m (eL false 1 1 (t.blk 0 rfl)) (wR 3 [(0, pB c 0), (3, iv f), (29, iv (w64 (b.at_ + 1))), (31, pB c 1)] m (wS false 1 1 (iv (w64 (b.at_ + 1))) 0 [.slice d b.code.length g, iv (w64 (b.at_ + 1)), .int .u64 b.seed] t rfl ?_))))))
 intro n u
 refine W_nil (N_then (G_seq (G_region (wR 4 [(0, pB c 0), (3, iv f), (32, pB c 0), (35, pB c 2)] n (wV (.int .u64 b.seed) n (eL false 1 2 (u.blk 0 rfl)) (wR 7 [(0, pB c 0), (3, iv f), (41, .int .u64 (IntKind.u64.wrap ((IntKind.u64.wrap ((IntKind.u64.wrap (b.seed * 6364136223846793005)) + (IntKind.u64.wrap f))) + 843843))), (43, pB c 2)] n (wS false 1 2 (.int .u64 (IntKind.u64.wrap ((IntKind.u64.wrap ((IntKind.u64.wrap (b.seed * 6364136223846793005)) + (IntKind.u64.wrap f))) + 843843))) 0 [.slice d b.code.length g, iv (w64 (b.at_ + 1)), .int .u64 (IntKind.u64.wrap ((IntKind.u64.wrap ((IntKind.u64.wrap (b.seed * 6364136223846793005)) + (IntKind.u64.wrap f))) + 843843))] u rfl ?_)))))))
 intro H A
 refine W_nil (N_then (G_seq (G_seq (G_quiet (by kernel_rfl) (by kernel_rfl) A (zR [pB c 0, pB c 0, pB c 1] [(0, pB c 0), (3, iv f), (46, pB c 1)] (zV (iv (w64 (b.at_ + 1))) (fun w_ M_ => (eL false 1 1 (M_.blk 0 rfl))) (zR [pB c 0, pB c 0, pB c 0] [(0, pB c 0), (3, iv f), (47, iv (w64 (b.at_ + 1))), (50, pB c 0)] (zV (.slice d b.code.length g) (fun w_ M_ => (eL false 1 0 (M_.blk 0 rfl))) (zR [iv (b.code.length : Int), .bool (decide ((w64 (b.at_ + 1)) ≤ (b.code.length : Int)))] [(0, pB c 0), (3, iv f), (53, .bool (decide ((w64 (b.at_ + 1)) ≤ (b.code.length : Int))))] (Z_end fun h j => (N_then ?_)))))))))))
 rcases gx_bif hm with ⟨l, hm⟩ | ⟨l, hm⟩
 ·refine gT l (G_seq (G_region (wR 2 [(2, iv f)] h (W_nil (N_then (G_ret (N_then_ret ?_)))))))
  obtain rfl := Option.some.inj hm
  exact N_ret [iv f] (rC RVs_nil) (⟨rfl, j.pk [0]⟩)
 refine gF l (G_skip (N_then (G_seq (G_region (wR 3 [(57, pB c 2)] h (wV (.int .u64 (IntKind.u64.wrap ((IntKind.u64.wrap ((IntKind.u64.wrap (b.seed * 6364136223846793005)) + (IntKind.u64.wrap f))) + 843843))) h (eL false 1 2 (j.blk 0 rfl)) (wR 4 [(2, iv (w64 (gxAnd .u64 ((IntKind.u64.wrap ((IntKind.u64.wrap ((IntKind.u64.wrap (b.seed * 6364136223846793005)) + (IntKind.u64.wrap f))) + 843843)).fdiv (2 ^ 40)) 255)))] h (W_nil (N_then (G_ret ?_))))))))))
 obtain rfl := Option.some.inj hm
 exact N_ret [iv (w64 (gxAnd .u64 ((IntKind.u64.wrap ((IntKind.u64.wrap ((IntKind.u64.wrap (b.seed * 6364136223846793005)) + (IntKind.u64.wrap f))) + 843843)).fdiv (2 ^ 40)) 255))] (rC RVs_nil) (⟨rfl, j.pk [0]⟩)
theorem c_s_l1Cur_pick (w : World) (b : l1Cur) (f : Option Addr) (g : Nat) (k : rdS Gx.encU8 w b.code f g) (c : Nat) (d : Int) (hA : ∀ q ∈ List.flatten [[(c, .cells ⟨[.slice f b.code.length g, iv b.at_, .int .u64 b.seed]⟩ 99 (0, 0))]], w.heap[q.1]? = some q.2) (hN : (idsOf [[(c, .cells ⟨[.slice f b.code.length g, iv b.at_, .int .u64 b.seed]⟩ 99 (0, 0))]]).Nodup) (l : apartX (idsOf [[(c, .cells ⟨[.slice f b.code.length g, iv b.at_, .int .u64 b.seed]⟩ 99 (0, 0))]]) b.code f) {r : Int × Int × Int} (hm : M.s_l1Cur_pick b d = some r) :
  Calls Try.prog 88 #[pB c 0, iv d] w fun e w' => e = .returned (iv r.1) ∧ Mem (idsOf [[(c, .cells ⟨[.slice f b.code.length g, iv b.at_, .int .u64 b.seed]⟩ 99 (0, 0))]]) w w' [[(c, .cells ⟨[.slice f b.code.length g, iv r.2.1, .int .u64 r.2.2]⟩ 99 (0, 0))]] := by
 unfold M.s_l1Cur_pick at hm
 refine cE Try.func88 ?_
 have M0 := Mem.start' w [[(c, .cells ⟨[.slice f b.code.length g, iv b.at_, .int .u64 b.seed]⟩ 99 (0, 0))]] hA hN
 refine G_seq (G_region (wR 1 [(0, pB c 0), (1, iv d)] w (W_nil (N_then (G_seq (G_seq (G_region (wR 2 [(0, pB c 0), (1, iv d), (7, .bool (decide (d ≤ 1)))] w (W_nil (N_then ?_))))))))))
 rcases gx_bif hm with ⟨o, hm⟩ | ⟨o, hm⟩
 ·refine gT o (G_seq (G_region (wR 1 [(4, iv 0)] w (W_nil (N_then (G_ret (N_then_ret ?_)))))))
  obtain rfl := Option.some.inj hm
  exact N_ret [iv 0] (rC RVs_nil) (⟨rfl, M0.pk [0]⟩)
 refine gF o (G_skip (N_then (G_seq (G_region (wR 1 [(0, pB c 0), (1, iv d), (8, pB c 0)] w ?_)))))
 obtain ⟨h, E, hm⟩ := gx_bind hm
 refine wC 103 #[pB c 0] ((c_s_l1Cur_next w b f g (k.memX l M0) c (M0.hasPick [0]) (M0.nodupPick [0] (by kernel_rfl)) (apartX.old k l M0 [0]) E).mono ?_)
 rintro e_ n ⟨rfl, v⟩
 have i := M0.callF' [0] [] (by kernel_rfl) v
 refine ⟨_, rfl, ?_⟩
 refine wR 1 [(0, pB c 0), (1, iv d), (5, iv h.1)] n (W_nil (N_then (G_seq (G_seq (G_region (wR 2 [(0, pB c 0), (1, iv d), (5, iv h.1), (11, .bool (decide (d > 200)))] n (W_nil (N_then ?_))))))))
 obtain ⟨j, C, B⟩ := gx_bind hm
 refine G_meet (fun a w' => Mem (idsOf [[(c, .cells ⟨[.slice f b.code.length g, iv b.at_, .int .u64 b.seed]⟩ 99 (0, 0))]]) w w' [[(c, .cells ⟨[.slice f b.code.length g, iv j.2.1, .int .u64 j.2.2]⟩ 99 (0, 0))]] ∧ Sat Try.f88.ntmps [(1, iv d), (5, iv j.1)] a) ?_ ?_
 ·have hm := C
  rcases gx_bif hm with ⟨t, hm⟩ | ⟨t, hm⟩
  ·refine gT t (G_region (wR 3 [(1, iv d), (5, iv h.1), (13, iv (w64 (h.1 * 256))), (14, pB c 0)] n ?_))
   obtain ⟨G, F, hm⟩ := gx_bind hm
   refine wC 103 #[pB c 0] ((c_s_l1Cur_next n (⟨b.code, h.2.1, h.2.2⟩ : l1Cur) f g (k.memX l i) c (i.hasPick [0]) (i.nodupPick [0] (by kernel_rfl)) (apartX.old k l i [0]) F).mono ?_)
   rintro e_ H ⟨rfl, x⟩
   have y := i.callF' [0] [] (by kernel_rfl) x
   refine ⟨_, rfl, ?_⟩
   refine wR 2 [(1, iv d), (5, iv (w64 ((w64 (h.1 * 256)) + G.1)))] H (W_nil ?_)
   obtain rfl := Option.some.inj hm
   exact N_meet fun a ha => ⟨y.pk [0], ha.s⟩
  refine gF t (G_skip ?_)
  obtain rfl := Option.some.inj hm
  exact N_meet fun a ha => ⟨i.pk [0], ha.s⟩
 intro I u ⟨z, A⟩
 refine N_use A ?_
 have hm := B
 refine N_then (G_seq (G_region (wR 2 [(17, iv j.1), (18, iv d)] u ?_)))
 obtain ⟨m, D, hm⟩ := gx_bind hm
 refine wV (iv m) u (E_rem _ _ _ _ j.1 d m rfl (by kernel_rfl) (by kernel_rfl) D) (wR 1 [(4, iv m)] u (W_nil (N_then (G_ret ?_))))
 obtain rfl := Option.some.inj hm
 exact N_ret [iv m] (rC RVs_nil) (⟨rfl, z.pk [0]⟩)
theorem c_s_l1Cur_among (w : World) (a : l1Cur) (c : Option Addr) (d : Nat) (l : rdS Gx.encU8 w a.code c d) (b : Nat) (f : List Int) (g : Option Addr) (h : Nat) (m : rdS Gx.encI w f g h) (hA : ∀ q ∈ List.flatten [[(b, .cells ⟨[.slice c a.code.length d, iv a.at_, .int .u64 a.seed]⟩ 99 (0, 0))]], w.heap[q.1]? = some q.2) (hN : (idsOf [[(b, .cells ⟨[.slice c a.code.length d, iv a.at_, .int .u64 a.seed]⟩ 99 (0, 0))]]).Nodup) (n : apartX (idsOf [[(b, .cells ⟨[.slice c a.code.length d, iv a.at_, .int .u64 a.seed]⟩ 99 (0, 0))]]) a.code c) (o : apartX (idsOf [[(b, .cells ⟨[.slice c a.code.length d, iv a.at_, .int .u64 a.seed]⟩ 99 (0, 0))]]) f g) {r : Int × Int × Int} (hm : M.s_l1Cur_among a f = some r) :
  Calls Try.prog 86 #[pB b 0, .slice g f.length h] w fun e w' => e = .returned (iv r.1) ∧ Mem (idsOf [[(b, .cells ⟨[.slice c a.code.length d, iv a.at_, .int .u64 a.seed]⟩ 99 (0, 0))]]) w w' [[(b, .cells ⟨[.slice c a.code.length d, iv r.2.1, .int .u64 r.2.2]⟩ 99 (0, 0))]] := by
 unfold M.s_l1Cur_among at hm
 refine cE Try.func86 ?_
 have M0 := Mem.start' w [[(b, .cells ⟨[.slice c a.code.length d, iv a.at_, .int .u64 a.seed]⟩ 99 (0, 0))]] hA hN
 refine G_seq (G_region (wR 1 [(0, pB b 0), (1, .slice g f.length h)] w (W_nil (N_then (G_seq (G_region (wR 4 [(5, .slice g f.length h), (6, pB b 0), (8, iv (f.length : Int))] w ?_)))))))
 obtain ⟨u, x, hm⟩ := gx_bind hm
 refine wC 88 #[pB b 0, iv (f.length : Int)] ((c_s_l1Cur_pick w a c d (l.memX n M0) b (f.length : Int) (M0.hasPick [0]) (M0.nodupPick [0] (by kernel_rfl)) (apartX.old l n M0 [0]) x).mono ?_)
 rintro e_ j ⟨rfl, v⟩
 have i := M0.callF' [0] [] (by kernel_rfl) v
 refine ⟨_, rfl, ?_⟩
 obtain ⟨k, t, hm⟩ := gx_bind hm
 refine wV (elemP g (u.1.toNat * 1)) j (eI (m.memX o i) rfl t) (wV (iv k) j (eE false 1 0 (u.1.toNat * 1) (m.memX o i) t) (wR 1 [(4, iv k)] j (W_nil (N_then (G_ret ?_)))))
 obtain rfl := Option.some.inj hm
 exact N_ret [iv k] (rC RVs_nil) (⟨rfl, i.pk [0]⟩)
theorem c_s_l1Cur_memory (w : World) (c : l1Cur) (d : Option Addr) (f : Nat) (l : rdS Gx.encU8 w c.code d f) (b : Nat) (hA : ∀ q ∈ List.flatten [[(b, .cells ⟨[.slice d c.code.length f, iv c.at_, .int .u64 c.seed]⟩ 99 (0, 0))]], w.heap[q.1]? = some q.2) (hN : (idsOf [[(b, .cells ⟨[.slice d c.code.length f, iv c.at_, .int .u64 c.seed]⟩ 99 (0, 0))]]).Nodup) (m : apartX (idsOf [[(b, .cells ⟨[.slice d c.code.length f, iv c.at_, .int .u64 c.seed]⟩ 99 (0, 0))]]) c.code d) {r : (List Int) × Int × Int} (hm : M.s_l1Cur_memory c = some r) :
  Calls Try.prog 91 #[pB b 0] w fun e w' => ∃ (ba : Option Addr) (ax : Nat) (be : Seg), e = .returned (.slice ba r.1.length ax) ∧ ownS Gx.encI r.1 ba ax be ∧ Mem (idsOf [[(b, .cells ⟨[.slice d c.code.length f, iv c.at_, .int .u64 c.seed]⟩ 99 (0, 0))]]) w w' [[(b, .cells ⟨[.slice d c.code.length f, iv r.2.1, .int .u64 r.2.2]⟩ 99 (0, 0))], be] := by
 unfold M.s_l1Cur_memory at hm
 refine cE Try.func91 ?_
 have M0 := Mem.start' w [[(b, .cells ⟨[.slice d c.code.length f, iv c.at_, .int .u64 c.seed]⟩ 99 (0, 0))]] hA hN
 refine G_seq (G_region (wR 1 [(0, pB b 0)] w (W_nil (N_then (G_seq (G_region (wL (E := Gx.encI) ([] : List Int) 0 [] 3 M0 ?_)))))))
 intro V O c6 ak cr H
 refine wR 1 [(0, pB b 0), (3, .slice V ([] : List Int).length O)] ak (W_nil (N_then (G_seq (G_seq (G_region (wR 1 [(0, pB b 0), (3, .slice V ([] : List Int).length O), (6, pB b 0)] ak ?_))))))
 obtain ⟨c2, cy, hm⟩ := gx_bind hm
 refine wC 88 #[pB b 0, iv 8] ((c_s_l1Cur_pick ak c d f (l.memX m H) b 8 (H.hasPick [0]) (H.nodupPick [0] (by kernel_rfl)) (apartX.old l m H [0]) cy).mono ?_)
 rintro e_ dd ⟨rfl, bo⟩
 have bz := H.callF' [0] [1] (by kernel_rfl) bo
 refine ⟨_, rfl, ?_⟩
 refine wR 2 [(0, pB b 0), (3, .slice V ([] : List Int).length O), (4, iv (w64 (1 + c2.1)))] dd (W_nil (N_then ?_))
 obtain ⟨g, cz, cd⟩ := gx_bind hm
 refine G_meet (fun a w' => ∃ (h : Option Addr), ∃ (i : Nat), ∃ (D : Seg), ownS Gx.encI g.1 h i D ∧ Mem (idsOf [[(b, .cells ⟨[.slice d c.code.length f, iv c.at_, .int .u64 c.seed]⟩ 99 (0, 0))]]) w w' [[(b, .cells ⟨[.slice d c.code.length f, iv g.2.1, .int .u64 g.2.2]⟩ 99 (0, 0))], D] ∧ Sat Try.f91.ntmps [(0, pB b 0), (3, .slice h g.1.length i)] a) ?_ ?_
 ·refine G_block (G_while (σ := List Int × Int × Int × Int) (ρ := List Int × Int × Int) (fun j a w' => ∃ (y : Option Addr), ∃ (v : Nat), ∃ (W : Seg), ownS Gx.encI j.1 y v W ∧ Mem (idsOf [[(b, .cells ⟨[.slice d c.code.length f, iv c.at_, .int .u64 c.seed]⟩ 99 (0, 0))]]) w w' [[(b, .cells ⟨[.slice d c.code.length f, iv j.2.2.1, .int .u64 j.2.2.2]⟩ 99 (0, 0))], W] ∧ Sat Try.f91.ntmps [(0, pB b 0), (3, .slice y j.1.length v), (4, iv j.2.1)] a) cz (fun a ha => ⟨V, O, c6, cr, bz.pk [1, 0], ha.s⟩) ?_)
  clear hm
  intro j d3 hm cs df bf ⟨y, v, W, ay, al, b1⟩
  refine G_use b1 (G_seq (G_seq (G_region (wR 2 [(0, pB b 0), (3, .slice y j.1.length v), (4, iv j.2.1), (10, .bool (decide (j.2.1 > 0)))] bf (W_nil (N_then ?_))))))
  rcases gx_bif hm with ⟨ae, hm⟩ | ⟨ae, hm⟩
  ·refine gT ae (G_skip (N_then (G_seq (G_block (G_region (wR 2 [(0, pB b 0), (3, .slice y j.1.length v), (4, iv j.2.1), (13, .slice y j.1.length v), (14, pB b 0)] bf (wL (E := Gx.encI) [0, 0, 1, 2, 255, 4096, 65535] 7 [iv 0, iv 0, iv 1, iv 2, iv 255, iv 4096, iv 65535] 3 al ?_)))))))
   intro a6 ar ds c7 az t
   obtain ⟨bb, cu, hm⟩ := gx_bind hm
   refine wC 86 #[pB b 0, .slice a6 [0, 0, 1, 2, 255, 4096, 65535].length ar] ((c_s_l1Cur_among c7 (⟨c.code, j.2.2.1, j.2.2.2⟩ : l1Cur) d f (l.memX m t) b [0, 0, 1, 2, 255, 4096, 65535] a6 ar (az.rd t 2 (by kernel_rfl)) (t.hasPick [0]) (t.nodupPick [0] (by kernel_rfl)) (apartX.old l m t [0]) (apartX.own az t 2 (by kernel_rfl) [0] (by kernel_rfl)) cu).mono ?_)
   rintro e_ dw ⟨rfl, bk⟩
   have bp := t.callF' [0] [1, 2] (by kernel_rfl) bk
   refine ⟨_, rfl, ?_⟩
   refine wL (E := Gx.encI) [bb.1] 1 [iv bb.1] 3 bp ?_
   intro dq dm dt dx cf am
   obtain ⟨aq, b8, hm⟩ := gx_bind hm
   refine wA 8 [iv 0] 0 am ay (cf.rd am 3 (by kernel_rfl)) b8 ?_
   intro aj ad c3 bg cg bq
   refine wR 1 [(0, pB b 0), (3, .slice aj aq.length ad), (4, iv j.2.1)] bg (W_nil (N_block (N_then (G_region (wR 3 [(0, pB b 0), (3, .slice aj aq.length ad), (4, iv (w64 (j.2.1 - 1)))] bg (W_nil ?_))))))
   obtain rfl := Option.some.inj hm
   exact N_loop fun a ha => ⟨_, rfl, aj, ad, c3, cg, bq.pk [2, 0], ha.s⟩
  refine gF ae (G_exit (N_then_exit (N_then_exit (N_block_eq ?_))))
  obtain rfl := Option.some.inj hm
  obtain rfl := cs _ rfl
  exact N_meet fun a ha => ⟨y, v, W, ay, al.pk [0, 1], ha.s⟩
 intro dg bh ⟨h, i, D, I, F, b2⟩
 refine N_use b2 ?_
 have hm := cd
 refine N_then (G_seq (G_seq (G_region (wR 1 [(0, pB b 0), (3, .slice h g.1.length i), (19, pB b 0)] bh ?_))))
 obtain ⟨z, cv, hm⟩ := gx_bind hm
 refine wC 88 #[pB b 0, iv 32] ((c_s_l1Cur_pick bh (⟨c.code, g.2.1, g.2.2⟩ : l1Cur) d f (l.memX m F) b 32 (F.hasPick [0]) (F.nodupPick [0] (by kernel_rfl)) (apartX.old l m F [0]) cv).mono ?_)
 rintro e_ ac ⟨rfl, bl⟩
 have J := F.callF' [0] [1] (by kernel_rfl) bl
 refine ⟨_, rfl, ?_⟩
 refine W_nil (N_then (G_block (G_seq (G_region (wR 2 [(0, pB b 0), (3, .slice h g.1.length i), (20, iv z.1), (21, .bool (z.1 == 0))] ac (W_nil (N_then ?_)))))))
 obtain ⟨x, ch, ca⟩ := gx_bind hm
 refine G_meet (fun a w' => ∃ (B : Option Addr), ∃ (A : Nat), ∃ (X : Seg), ∃ (bc : Seg), ownS Gx.encI x.1 B A X ∧ ownS Gx.encI x.2.2.2 h i bc ∧ Mem (idsOf [[(b, .cells ⟨[.slice d c.code.length f, iv c.at_, .int .u64 c.seed]⟩ 99 (0, 0))]]) w w' [[(b, .cells ⟨[.slice d c.code.length f, iv x.2.1, .int .u64 x.2.2.1]⟩ 99 (0, 0))], X] ∧ Sat Try.f91.ntmps [(3, .slice B x.1.length A)] a) ?_ ?_
 ·have hm := ch
  rcases gx_bif hm with ⟨af, hm⟩ | ⟨af, hm⟩
  ·refine gT af (G_region (wR 2 [(3, .slice h g.1.length i), (23, .slice h g.1.length i), (24, pB b 0)] ac (wL (E := Gx.encI) [(-1), 65536] 2 [iv (-1), iv 65536] 3 J ?_)))
   intro a7 au du c8 a0 u
   obtain ⟨C, cw, hm⟩ := gx_bind hm
   refine wC 86 #[pB b 0, .slice a7 [(-1), 65536].length au] ((c_s_l1Cur_among c8 (⟨c.code, z.2.1, z.2.2⟩ : l1Cur) d f (l.memX m u) b [(-1), 65536] a7 au (a0.rd u 2 (by kernel_rfl)) (u.hasPick [1]) (u.nodupPick [1] (by kernel_rfl)) (apartX.old l m u [1]) (apartX.own a0 u 2 (by kernel_rfl) [1] (by kernel_rfl)) cw).mono ?_)
   rintro e_ c9 ⟨rfl, bm⟩
   have an := u.callF' [1] [0, 2] (by kernel_rfl) bm
   refine ⟨_, rfl, ?_⟩
   obtain ⟨de, a5, hm⟩ := gx_bind hm
   refine wV (elemP h ((0 : Int).toNat * 1)) c9 (eI (I.rd an 0 (by kernel_rfl)) rfl a5) (wE false 1 (0 : Int).toNat 0 ((0 : Int).toNat * 1) de C.1 (iv C.1) 0 an I (gxIdx_spec a5).2 ?_)
   intro dy bd a3 br
   refine wX 3 (.slice h g.1.length i) (.slice h (g.1.set (0 : Int).toNat C.1).length i) (by rw [@List.length_set _ g.1 ((0 : Int).toNat) C.1]) (wX 23 (.slice h g.1.length i) (.slice h (g.1.set (0 : Int).toNat C.1).length i) (by rw [@List.length_set _ g.1 ((0 : Int).toNat) C.1]) (W_nil ?_))
   obtain rfl := Option.some.inj hm
   exact N_meet fun a ha => ⟨h, i, bd, bd, a3, a3, br.pk [2, 0], ha.s⟩
  refine gF af (G_seq (G_region (wR 2 [(0, pB b 0), (3, .slice h g.1.length i), (20, iv z.1), (28, .bool (z.1 == 1))] ac (W_nil (N_then ?_)))))
  obtain ⟨P, cj, cb⟩ := gx_bind hm
  refine G_meet (fun a w' => ∃ (S : Option Addr), ∃ (K : Nat), ∃ (Y : Seg), ownS Gx.encI P.1 S K Y ∧ Mem (idsOf [[(b, .cells ⟨[.slice d c.code.length f, iv c.at_, .int .u64 c.seed]⟩ 99 (0, 0))]]) w w' [[(b, .cells ⟨[.slice d c.code.length f, iv P.2.1, .int .u64 P.2.2]⟩ 99 (0, 0))], Y] ∧ Sat Try.f91.ntmps [(3, .slice S P.1.length K)] a) ?_ ?_
  ·have hm := cj
   rcases gx_bif hm with ⟨ag, hm⟩ | ⟨ag, hm⟩
   ·refine gT ag (G_region (wL (E := Gx.encI) ([] : List Int) 0 [] 3 J ?_))
    intro a8 av c4 da cl bs
    refine wR 1 [(3, .slice a8 ([] : List Int).length av)] da (W_nil ?_)
    obtain rfl := Option.some.inj hm
    exact N_meet fun a ha => ⟨a8, av, c4, cl, bs.pk [1, 2], ha.s⟩
   refine gF ag (G_seq (G_region (wR 2 [(0, pB b 0), (3, .slice h g.1.length i), (31, .bool (z.1 == 2))] ac (W_nil (N_then ?_)))))
   obtain ⟨Q, cm, cc⟩ := gx_bind hm
   refine G_meet (fun a w' => ∃ (T : Option Addr), ∃ (L : Nat), ∃ (Z : Seg), ownS Gx.encI Q.1 T L Z ∧ Mem (idsOf [[(b, .cells ⟨[.slice d c.code.length f, iv c.at_, .int .u64 c.seed]⟩ 99 (0, 0))]]) w w' [[(b, .cells ⟨[.slice d c.code.length f, iv Q.2.1, .int .u64 Q.2.2]⟩ 99 (0, 0))], Z] ∧ Sat Try.f91.ntmps [(3, .slice T Q.1.length L)] a) ?_ ?_
   ·have hm := cm
    rcases gx_bif hm with ⟨ah, hm⟩ | ⟨ah, hm⟩
    ·refine gT ah ?_
     obtain ⟨R, c0, ce⟩ := gx_bind hm
     refine G_meet (fun a w' => ∃ (U : Option Addr), ∃ (N : Nat), ∃ (ab : Seg), ownS Gx.encI R.1 U N ab ∧ Mem (idsOf [[(b, .cells ⟨[.slice d c.code.length f, iv c.at_, .int .u64 c.seed]⟩ 99 (0, 0))]]) w w' [[(b, .cells ⟨[.slice d c.code.length f, iv R.2.1, .int .u64 R.2.2]⟩ 99 (0, 0))], ab] ∧ Sat Try.f91.ntmps [(3, .slice U R.1.length N)] a) ?_ ?_
     ·refine G_block (G_while (σ := List Int × Int × Int) (ρ := List Int × Int × Int) (fun k a w' => ∃ (o : Option Addr), ∃ (n : Nat), ∃ (aa : Seg), ownS Gx.encI k.1 o n aa ∧ Mem (idsOf [[(b, .cells ⟨[.slice d c.code.length f, iv c.at_, .int .u64 c.seed]⟩ 99 (0, 0))]]) w w' [[(b, .cells ⟨[.slice d c.code.length f, iv k.2.1, .int .u64 k.2.2]⟩ 99 (0, 0))], aa] ∧ Sat Try.f91.ntmps [(0, pB b 0), (3, .slice o k.1.length n)] a) c0 (fun a ha => ⟨h, i, D, I, J.pk [1, 0], ha.s⟩) ?_)
      clear hm
      intro k d4 hm ct dh bi ⟨o, n, aa, a4, G, b3⟩
      refine G_use b3 (G_seq (G_seq (G_region (wR 3 [(0, pB b 0), (3, .slice o k.1.length n), (34, iv (k.1.length : Int)), (35, pB b 0)] bi ?_))))
      obtain ⟨c1, cx, hm⟩ := gx_bind hm
      refine wC 88 #[pB b 0, iv 2] ((c_s_l1Cur_pick bi (⟨c.code, k.2.1, k.2.2⟩ : l1Cur) d f (l.memX m G) b 2 (G.hasPick [0]) (G.nodupPick [0] (by kernel_rfl)) (apartX.old l m G [0]) cx).mono ?_)
      rintro e_ bj ⟨rfl, bn⟩
      have ao := G.callF' [0] [1] (by kernel_rfl) bn
      refine ⟨_, rfl, ?_⟩
      refine wR 2 [(0, pB b 0), (3, .slice o k.1.length n), (38, .bool (decide ((k.1.length : Int) < (w64 (12 + c1.1)))))] bj (W_nil (N_then ?_))
      rcases gx_bif hm with ⟨ai, hm⟩ | ⟨ai, hm⟩
      ·refine gT ai (G_skip (N_then (G_block (G_region (wR 1 [(0, pB b 0), (3, .slice o k.1.length n), (39, .slice o k.1.length n)] bj (wL (E := Gx.encI) [7] 1 [iv 7] 3 ao ?_))))))
       intro dr dn dv dz cp ap
       obtain ⟨b0, b9, hm⟩ := gx_bind hm
       refine wA 8 [iv 0] 0 ap a4 (cp.rd ap 2 (by kernel_rfl)) b9 ?_
       intro a9 aw c5 db cq bt
       refine wR 1 [(0, pB b 0), (3, .slice a9 b0.length aw)] db (W_nil (N_block ?_))
       obtain rfl := Option.some.inj hm
       exact N_loop fun a ha => ⟨_, rfl, a9, aw, c5, cq, bt.pk [1, 0], ha.s⟩
      refine gF ai (G_exit (N_then_exit (N_then_exit (N_block_eq ?_))))
      obtain rfl := Option.some.inj hm
      obtain rfl := ct _ rfl
      exact N_meet fun a ha => ⟨o, n, aa, a4, ao.pk [1, 0], ha.s⟩
     intro di d0 ⟨U, N, ab, co, bu, b4⟩
     refine N_use b4 ?_
     have hm := ce
     obtain rfl := Option.some.inj hm
     exact N_meet fun a ha => ⟨U, N, ab, co, bu.pk [0, 1], ha.s⟩
    refine gF ah (G_skip ?_)
    obtain rfl := Option.some.inj hm
    exact N_meet fun a ha => ⟨h, i, D, I, J.pk [1, 0], ha.s⟩
   intro dj d1 ⟨T, L, Z, cn, bv, b5⟩
   refine N_use b5 ?_
   have hm := cc
   obtain rfl := Option.some.inj hm
   exact N_meet fun a ha => ⟨T, L, Z, cn, bv.pk [0, 1], ha.s⟩
  intro dk d2 ⟨S, K, Y, ck, bw, b6⟩
  refine N_use b6 ?_
  have hm := cb
  obtain rfl := Option.some.inj hm
  exact N_meet fun a ha => ⟨S, K, Y, D, ck, I, bw.pk [0, 1], ha.s⟩
 intro dl dc ⟨B, A, X, bc, ci, dp, bx, b7⟩
 refine N_use b7 ?_
 have hm := ca
 refine N_block (N_then (G_seq (G_region (wR 2 [(2, .slice B x.1.length A)] dc (W_nil (N_then (G_ret ?_)))))))
 obtain rfl := Option.some.inj hm
 exact N_ret [.slice B x.1.length A] (rC RVs_nil) (⟨B, A, X, rfl, ci, bx.pk [0, 1]⟩)
theorem c_s_l1Cur_one (w : World) (a : l1Cur) (c : Option Addr) (d : Nat) (g : rdS Gx.encU8 w a.code c d) (b : Nat) (f : Int) (hA : ∀ q ∈ List.flatten [[(b, .cells ⟨[.slice c a.code.length d, iv a.at_, .int .u64 a.seed]⟩ 99 (0, 0))]], w.heap[q.1]? = some q.2) (hN : (idsOf [[(b, .cells ⟨[.slice c a.code.length d, iv a.at_, .int .u64 a.seed]⟩ 99 (0, 0))]]).Nodup) (h : apartX (idsOf [[(b, .cells ⟨[.slice c a.code.length d, iv a.at_, .int .u64 a.seed]⟩ 99 (0, 0))]]) a.code c) {r : Bool × Int × Int} (hm : M.s_l1Cur_one a f = some r) :
  Calls Try.prog 102 #[pB b 0, iv f] w fun e w' => e = .returned (.bool r.1) ∧ Mem (idsOf [[(b, .cells ⟨[.slice c a.code.length d, iv a.at_, .int .u64 a.seed]⟩ 99 (0, 0))]]) w w' [[(b, .cells ⟨[.slice c a.code.length d, iv r.2.1, .int .u64 r.2.2]⟩ 99 (0, 0))]] := by
 unfold M.s_l1Cur_one at hm
 refine cE Try.func102 ?_
 have M0 := Mem.start' w [[(b, .cells ⟨[.slice c a.code.length d, iv a.at_, .int .u64 a.seed]⟩ 99 (0, 0))]] hA hN
 refine G_seq (G_region (wR 1 [(0, pB b 0), (1, iv f)] w (W_nil (N_then (G_seq (G_region (wR 2 [(5, pB b 0), (6, iv f)] w ?_)))))))
 obtain ⟨i, l, hm⟩ := gx_bind hm
 refine wC 88 #[pB b 0, iv f] ((c_s_l1Cur_pick w a c d (g.memX h M0) b f (M0.hasPick [0]) (M0.nodupPick [0] (by kernel_rfl)) (apartX.old g h M0 [0]) l).mono ?_)
 rintro e_ m ⟨rfl, j⟩
 have k := M0.callF' [0] [] (by kernel_rfl) j
 refine ⟨_, rfl, ?_⟩
 refine wR 2 [(4, .bool (i.1 == 0))] m (W_nil (N_then (G_ret ?_)))
 obtain rfl := Option.some.inj hm
 exact N_ret [.bool (i.1 == 0)] (rC RVs_nil) (⟨rfl, k.pk [0]⟩)
theorem c_s_l1Most (w : World) (a : Int) (b : Int) {r : Int} (hm : M.s_l1Most a b = some r) :
  Calls Try.prog 104 #[iv a, iv b] w fun e w' => e = .returned (iv r) ∧ Mem [] w w' [] := by
 unfold M.s_l1Most at hm
 refine cE Try.func104 ?_
 have M0 := Mem.refl [] w
 refine G_seq (G_region (wR 1 [(0, iv a), (1, iv b)] w (W_nil (N_then (G_seq (G_seq (G_region (wR 3 [(0, iv a), (1, iv b), (7, .bool (decide (a > b)))] w (W_nil (N_then ?_))))))))))
 rcases gx_bif hm with ⟨c, hm⟩ | ⟨c, hm⟩
 ·refine gT c (G_seq (G_region (wR 2 [(4, iv a)] w (W_nil (N_then (G_ret (N_then_ret ?_)))))))
  obtain rfl := Option.some.inj hm
  exact N_ret [iv a] (rC RVs_nil) (⟨rfl, M0.pk []⟩)
 refine gF c (G_skip (N_then (G_seq (G_region (wR 2 [(4, iv b)] w (W_nil (N_then (G_ret ?_))))))))
 obtain rfl := Option.some.inj hm
 exact N_ret [iv b] (rC RVs_nil) (⟨rfl, M0.pk []⟩)
theorem c_s_l1Cur_storeIn (w : World) (c : l1Cur) (d : Option Addr) (f : Nat) (j : rdS Gx.encU8 w c.code d f) (a : Nat) (i : Int) (hA : ∀ q ∈ List.flatten [[(a, .cells ⟨[.slice d c.code.length f, iv c.at_, .int .u64 c.seed]⟩ 99 (0, 0))]], w.heap[q.1]? = some q.2) (hN : (idsOf [[(a, .cells ⟨[.slice d c.code.length f, iv c.at_, .int .u64 c.seed]⟩ 99 (0, 0))]]).Nodup) (l : apartX (idsOf [[(a, .cells ⟨[.slice d c.code.length f, iv c.at_, .int .u64 c.seed]⟩ 99 (0, 0))]]) c.code d) {r : Store × Int × Int} (hm : M.s_l1Cur_storeIn c i = some r) :
  Calls Try.prog 90 #[pB a 0, iv i] w fun e w' => e = .returned (.agg #[iv r.1.Word, iv r.1.Value]) ∧ Mem (idsOf [[(a, .cells ⟨[.slice d c.code.length f, iv c.at_, .int .u64 c.seed]⟩ 99 (0, 0))]]) w w' [[(a, .cells ⟨[.slice d c.code.length f, iv r.2.1, .int .u64 r.2.2]⟩ 99 (0, 0))]] := by
 unfold M.s_l1Cur_storeIn at hm
 refine cE Try.func90 ?_
 have M0 := Mem.start' w [[(a, .cells ⟨[.slice d c.code.length f, iv c.at_, .int .u64 c.seed]⟩ 99 (0, 0))]] hA hN
 refine G_seq (G_region (wN (.cells ⟨[iv 0, iv 0]⟩ 46 (0, 0)) M0 ?_))
 intro h U A
 refine W_nil (N_then (G_seq (G_seq (G_region (wR 1 [(0, pB a 0), (1, iv i), (4, pB h 0), (5, pB a 0)] U ?_)))))
 obtain ⟨C, af, hm⟩ := gx_bind hm
 refine wC 102 #[pB a 0, iv 32] ((c_s_l1Cur_one U c d f (j.memX l A) a 32 (A.hasPick [0]) (A.nodupPick [0] (by kernel_rfl)) (apartX.old j l A [0]) af).mono ?_)
 rintro e_ F ⟨rfl, V⟩
 have G := A.callF' [0] [1] (by kernel_rfl) V
 refine ⟨_, rfl, ?_⟩
 refine W_nil (N_then ?_)
 rcases gx_bif hm with ⟨D, hm⟩ | ⟨D, hm⟩
 ·refine gT D (G_seq (G_region (wR 2 [(0, pB a 0), (4, pB h 0), (7, pB a 0), (8, iv i)] F (wL (E := Gx.encI) [(-1), i, 0] 3 [iv (-1), iv i, iv 0] 3 G ?_))))
  intro Q J av al N t
  obtain ⟨m, ag, hm⟩ := gx_bind hm
  refine wC 86 #[pB a 0, .slice Q [(-1), i, 0].length J] ((c_s_l1Cur_among al (⟨c.code, C.2.1, C.2.2⟩ : l1Cur) d f (j.memX l t) a [(-1), i, 0] Q J (N.rd t 2 (by kernel_rfl)) (t.hasPick [1]) (t.nodupPick [1] (by kernel_rfl)) (apartX.old j l t [1]) (apartX.own N t 2 (by kernel_rfl) [1] (by kernel_rfl)) ag).mono ?_)
  rintro e_ am ⟨rfl, W⟩
  have ab := t.callF' [1] [0, 2] (by kernel_rfl) W
  refine ⟨_, rfl, ?_⟩
  refine wR 1 [(4, pB h 0), (10, iv m.1), (11, pB a 0)] am (wL (E := Gx.encI) [(-1), 65536] 2 [iv (-1), iv 65536] 3 ab ?_)
  intro R K aw an O u
  obtain ⟨y, ah, hm⟩ := gx_bind hm
  refine wC 86 #[pB a 0, .slice R [(-1), 65536].length K] ((c_s_l1Cur_among an (⟨c.code, m.2.1, m.2.2⟩ : l1Cur) d f (j.memX l u) a [(-1), 65536] R K (O.rd u 3 (by kernel_rfl)) (u.hasPick [2]) (u.nodupPick [2] (by kernel_rfl)) (apartX.old j l u [2]) (apartX.own O u 3 (by kernel_rfl) [2] (by kernel_rfl)) ah).mono ?_)
  rintro e_ ao ⟨rfl, X⟩
  have ac := u.callF' [2] [0, 1, 3] (by kernel_rfl) X
  refine ⟨_, rfl, ?_⟩
  refine wR 1 [(4, pB h 0), (14, .agg #[iv m.1, iv y.1])] ao (wS true 2 0 (.agg #[iv m.1, iv y.1]) 0 [iv m.1, iv y.1] ac rfl ?_)
  intro ay H
  refine W_nil (N_then (G_ret (N_then_ret ?_)))
  obtain rfl := Option.some.inj hm
  exact N_ret [.agg #[iv m.1, iv y.1]] (RVs_cons (RV_cell (g := true) (k := 2) (b := h) (off := 0) (cs := [iv m.1, iv y.1]) (e := 46) (fr := (0, 0)) (v := .agg #[iv m.1, iv y.1]) (H.blk 0 (b := h) (o := .cells ⟨[iv m.1, iv y.1]⟩ 46 (0, 0)) (by kernel_rfl)) (by kernel_rfl) (by kernel_rfl) (by kernel_rfl)) RVs_nil) (⟨rfl, H.pk [3]⟩)
 refine gF D (G_skip (N_then (G_seq (G_region (wR 2 [(0, pB a 0), (4, pB h 0), (15, pB a 0), (16, iv i)] F ?_)))))
 obtain ⟨T, ai, hm⟩ := gx_bind hm
 refine wC 104 #[iv 1, iv i] ((c_s_l1Most F 1 i ai).mono ?_)
 rintro e_ ap ⟨rfl, Y⟩
 have B := G.call0 Y
 refine ⟨_, rfl, ?_⟩
 obtain ⟨n, aj, hm⟩ := gx_bind hm
 refine wC 88 #[pB a 0, iv T] ((c_s_l1Cur_pick ap (⟨c.code, C.2.1, C.2.2⟩ : l1Cur) d f (j.memX l B) a T (B.hasPick [1]) (B.nodupPick [1] (by kernel_rfl)) (apartX.old j l B [1]) aj).mono ?_)
 rintro e_ aq ⟨rfl, Z⟩
 have ad := B.callF' [1] [0] (by kernel_rfl) Z
 refine ⟨_, rfl, ?_⟩
 refine wR 1 [(4, pB h 0), (18, iv n.1), (19, pB a 0)] aq (wL (E := Gx.encI) [0, 1, 5, 300, 65535] 5 [iv 0, iv 1, iv 5, iv 300, iv 65535] 3 ad ?_)
 intro S L ax ar P x
 obtain ⟨z, ak, hm⟩ := gx_bind hm
 refine wC 86 #[pB a 0, .slice S [0, 1, 5, 300, 65535].length L] ((c_s_l1Cur_among ar (⟨c.code, n.2.1, n.2.2⟩ : l1Cur) d f (j.memX l x) a [0, 1, 5, 300, 65535] S L (P.rd x 2 (by kernel_rfl)) (x.hasPick [1]) (x.nodupPick [1] (by kernel_rfl)) (apartX.old j l x [1]) (apartX.own P x 2 (by kernel_rfl) [1] (by kernel_rfl)) ak).mono ?_)
 rintro e_ au ⟨rfl, aa⟩
 have ae := x.callF' [1] [0, 2] (by kernel_rfl) aa
 refine ⟨_, rfl, ?_⟩
 refine wR 1 [(4, pB h 0), (22, .agg #[iv n.1, iv z.1])] au (wS true 2 0 (.agg #[iv n.1, iv z.1]) 0 [iv n.1, iv z.1] ae rfl ?_)
 intro az I
 refine W_nil (N_then (G_ret ?_))
 obtain rfl := Option.some.inj hm
 exact N_ret [.agg #[iv n.1, iv z.1]] (RVs_cons (RV_cell (g := true) (k := 2) (b := h) (off := 0) (cs := [iv n.1, iv z.1]) (e := 46) (fr := (0, 0)) (v := .agg #[iv n.1, iv z.1]) (I.blk 0 (b := h) (o := .cells ⟨[iv n.1, iv z.1]⟩ 46 (0, 0)) (by kernel_rfl)) (by kernel_rfl) (by kernel_rfl) (by kernel_rfl)) RVs_nil) (⟨rfl, I.pk [2]⟩)
end Go.Proofs.Ytjbblcdajdpfkaa
