/- The walks, printed by program: whenever the model gives r, the call returns r. Part 1. -/
import Derived.Test.YtlfligjpmodefaaM
import Derived.Test.YtlfligjpmodefaaGxZ
import Derived.Test.YtlfligjpmodefaaProg
import Derived.Test.YtlfligjpmodefaaSh
set_option linter.unusedVariables false
set_option maxRecDepth 100000
set_option maxHeartbeats 4000000
namespace Go.Proofs.Ytlfligjpmodefaa
open Go.Gx
theorem c_l_szIntS (w : World) (a : List Int) (f : Option Addr) (c : Nat) (g : rdS Gx.encI w a f c) (b : Int) {r : Int} (hm : M.l_szIntS a b = some r) :
  Calls Try.prog 78 #[.slice f a.length c, iv b] w fun e w' => e = .returned (iv r) ∧ Mem [] w w' [] := by
 unfold M.l_szIntS at hm
 refine cE Try.func78 ?_
 have M0 := Mem.refl [] w
 refine G_seq (G_region (wR 1 [(0, .slice f a.length c), (1, iv b)] w (W_nil (N_then (G_seq (G_region (wR 5 [(1, iv (w64 (b - (a.length : Int))))] w (W_nil (N_then (G_seq (G_seq (G_region (wR 2 [(1, iv (w64 (b - (a.length : Int)))), (10, .bool (decide ((w64 (b - (a.length : Int))) < 0)))] w (W_nil (N_then ?_)))))))))))))))
 rcases gx_bif hm with ⟨d, hm⟩ | ⟨d, hm⟩
 ·refine gT d (G_seq (G_region (wR 1 [(4, iv (-1))] w (W_nil (N_then (G_ret (N_then_ret ?_)))))))
  obtain rfl := Option.some.inj hm
  exact N_ret [iv (-1)] (rC RVs_nil) (⟨rfl, M0.pk []⟩)
 refine gF d (G_skip (N_then (G_seq (G_region (wR 2 [(4, iv (w64 (b - (a.length : Int))))] w (W_nil (N_then (G_ret ?_))))))))
 obtain rfl := Option.some.inj hm
 exact N_ret [iv (w64 (b - (a.length : Int)))] (rC RVs_nil) (⟨rfl, M0.pk []⟩)
theorem c_l_szBalloon (w : World) (a : Balloon) (d : Option Addr) (c : Nat) (n : rdS Gx.encI w a.Gave d c) (b : Int) {r : Int} (hm : M.l_szBalloon a b = some r) :
  Calls Try.prog 46 #[.agg #[iv a.Guest, iv a.Goal, .slice d a.Gave.length c], iv b] w fun e w' => e = .returned (iv r) ∧ Mem [] w w' [] := by
 unfold M.l_szBalloon at hm
 refine cE Try.func46 ?_
 have M0 := Mem.refl [] w
 refine G_seq (G_region (wN (.cells ⟨[iv a.Guest, iv a.Goal, .slice d a.Gave.length c]⟩ 56 (0, 0)) M0 ?_))
 intro l g i
 refine wR 1 [(1, iv b), (2, pB l 0)] g (W_nil (N_then (G_seq (G_region (wR 1 [(1, iv b), (5, pB l 2)] g (wV (.slice d a.Gave.length c) g (eL false 1 2 (i.blk 0 rfl)) (wR 1 [(1, iv b), (6, .slice d a.Gave.length c), (7, iv b)] g ?_)))))))
 obtain ⟨f, o, hm⟩ := gx_bind hm
 refine wC 78 #[.slice d a.Gave.length c, iv b] ((c_l_szIntS g a.Gave d c (n.mem0 i) b o).mono ?_)
 rintro e_ h ⟨rfl, m⟩
 have k := i.call0 m
 refine ⟨_, rfl, ?_⟩
 refine wR 1 [(1, iv f)] h (W_nil (N_then (G_seq (G_seq (G_region (wR 2 [(1, iv f), (10, .bool (decide (f < 0)))] h (W_nil (N_then ?_))))))))
 rcases gx_bif hm with ⟨j, hm⟩ | ⟨j, hm⟩
 ·refine gT j (G_seq (G_region (wR 1 [(4, iv (-1))] h (W_nil (N_then (G_ret (N_then_ret ?_)))))))
  obtain rfl := Option.some.inj hm
  exact N_ret [iv (-1)] (rC RVs_nil) (⟨rfl, k.pk []⟩)
 refine gF j (G_skip (N_then (G_seq (G_region (wR 2 [(4, iv f)] h (W_nil (N_then (G_ret ?_))))))))
 obtain rfl := Option.some.inj hm
 exact N_ret [iv f] (rC RVs_nil) (⟨rfl, k.pk []⟩)
theorem c_l_szBalloonS (w : World) (b : List Balloon) (d : Option Addr) (f : Nat) (D : rdD deepBalloon w b d f) (i : Int) {r : Int} (hm : M.l_szBalloonS b i = some r) :
  Calls Try.prog 13 #[.slice d b.length f, iv i] w fun e w' => e = .returned (iv r) ∧ Mem [] w w' [] := by
 unfold M.l_szBalloonS at hm
 refine cE Try.func13 ?_
 have M0 := Mem.refl [] w
 refine G_seq (G_region (wR 1 [(0, .slice d b.length f), (1, iv i)] w (W_nil (N_then (G_seq (G_region (wR 5 [(0, .slice d b.length f), (1, iv (w64 (i - (b.length : Int))))] w (W_nil (N_then (G_seq (G_seq (G_region (wR 2 [(0, .slice d b.length f), (1, iv (w64 (i - (b.length : Int)))), (11, .bool (decide ((w64 (i - (b.length : Int))) < 0)))] w (W_nil (N_then ?_)))))))))))))))
 rcases gx_bif hm with ⟨o, hm⟩ | ⟨o, hm⟩
 ·refine gT o (G_seq (G_region (wR 1 [(4, iv (-1))] w (W_nil (N_then (G_ret (N_then_ret ?_)))))))
  obtain rfl := Option.some.inj hm
  exact N_ret [iv (-1)] (rC RVs_nil) (⟨rfl, M0.pk []⟩)
 refine gF o (G_skip (N_then (G_seq (G_seq (G_region (wR 1 [(0, .slice d b.length f), (1, iv (w64 (i - (b.length : Int)))), (5, iv 0)] w (W_nil (N_then ?_))))))))
 obtain ⟨K, I, x⟩ := gx_bind hm
 refine G_meet (fun a w' => ∃ (l : Int), K = .inl l ∧ Mem [] w w' [] ∧ Sat Try.f13.ntmps [(1, iv l)] a) ?_ ?_
 ·refine G_block (G_while (σ := Int × Int) (ρ := (Int) ⊕ (Int)) (fun c a w' => Mem [] w w' [] ∧ Sat Try.f13.ntmps [(0, .slice d b.length f), (1, iv c.1), (5, iv c.2)] a) I (fun a ha => ⟨M0.pk [], ha.s⟩) ?_)
  clear hm
  intro c P hm y N j ⟨k, E⟩
  refine G_use E (G_seq (G_seq (G_region (wR 4 [(0, .slice d b.length f), (1, iv c.1), (5, iv c.2), (15, .bool (decide (c.2 < (b.length : Int))))] j (W_nil (N_then ?_))))))
  rcases gx_bif hm with ⟨q, hm⟩ | ⟨q, hm⟩
  ·refine gT q (G_skip (N_then (G_seq (G_block (G_seq (G_region (wR 2 [(0, .slice d b.length f), (1, iv c.1), (5, iv c.2), (18, .slice d b.length f), (19, iv c.2)] j ?_)))))))
   obtain ⟨g, J, hm⟩ := gx_bind hm
   obtain ⟨Q, A, z, G⟩ := id D
   obtain ⟨h, u⟩ := gxIdx_fst A J
   refine wV (elemP d (c.2.toNat * 3)) j (eI (z.mem0 k) (len_fst A) u) (wV (.agg #[iv g.Guest, iv g.Goal, .slice ((h 0).1) g.Gave.length ((h 0).2)]) j (eE true 3 0 (c.2.toNat * 3) (z.mem0 k) u) (wR 1 [(0, .slice d b.length f), (1, iv c.1), (5, iv c.2), (21, .agg #[iv g.Guest, iv g.Goal, .slice ((h 0).1) g.Gave.length ((h 0).2)]), (22, iv c.1)] j ?_))
   obtain ⟨m, H, hm⟩ := gx_bind hm
   refine wC 46 #[.agg #[iv g.Guest, iv g.Goal, .slice ((h 0).1) g.Gave.length ((h 0).2)], iv c.1] ((c_l_szBalloon j g ((h 0).1) ((h 0).2) ((G.mem0 k).at_ u 0 ⟨Int, Gx.encI, g.Gave, (h 0).1, (h 0).2⟩ (by kernel_rfl)) c.1 H).mono ?_)
   rintro e_ n ⟨rfl, B⟩
   have v := k.call0 B
   refine ⟨_, rfl, ?_⟩
   refine wR 1 [(0, .slice d b.length f), (1, iv m), (5, iv c.2)] n (W_nil (N_then (G_seq (G_region (wR 2 [(0, .slice d b.length f), (1, iv m), (5, iv c.2), (25, .bool (decide (m < 0)))] n (W_nil (N_then ?_)))))))
   rcases gx_bif hm with ⟨t, hm⟩ | ⟨t, hm⟩
   ·refine gT t (G_seq (G_region (wR 1 [(4, iv (-1))] n (W_nil (N_then (G_ret (N_block_ret (N_then_ret (N_then_ret ?_)))))))))
    obtain rfl := Option.some.inj hm
    obtain rfl := y _ rfl
    have hm := x; simp only [Sum.elim_inr] at hm
    refine N_block_ret (N_meet_ret (N_then_ret ?_))
    obtain rfl := Option.some.inj hm
    exact N_ret [iv (-1)] (rC RVs_nil) (⟨rfl, v.pk []⟩)
   refine gF t (G_skip (N_block (N_then (G_region (wR 3 [(0, .slice d b.length f), (1, iv m), (5, iv (w64 (c.2 + 1)))] n (W_nil ?_))))))
   obtain rfl := Option.some.inj hm
   exact N_loop fun a ha => ⟨_, rfl, v.pk [], ha.s⟩
  refine gF q (G_exit (N_then_exit (N_then_exit (N_block_eq ?_))))
  obtain rfl := Option.some.inj hm
  obtain rfl := y _ rfl
  exact N_meet fun a ha => ⟨_, rfl, k.pk [], ha.s⟩
 intro O L ⟨l, hout_, C, F⟩
 refine N_use F ?_
 subst hout_
 have hm := x; simp only [Sum.elim_inl] at hm
 refine N_then (G_seq (G_region (wR 2 [(4, iv l)] L (W_nil (N_then (G_ret ?_))))))
 obtain rfl := Option.some.inj hm
 exact N_ret [iv l] (rC RVs_nil) (⟨rfl, C.pk []⟩)
theorem c_l_toIntS (w : World) (f : List Int) (g : Option Addr) (h : Nat) (u : rdS Gx.encI w f g h) {r : (List Int)} (hm : M.l_toIntS f = some r) :
  Calls Try.prog 15 #[.slice g f.length h] w fun e w' => ∃ (z : Option Addr) (t : Nat) (A : Seg), e = .returned (.slice z r.length t) ∧ ownS Gx.encI r z t A ∧ Mem [] w w' [A] := by
 unfold M.l_toIntS at hm
 refine cE Try.func15 ?_
 have M0 := Mem.refl [] w
 refine G_seq (G_region (wR 1 [(0, .slice g f.length h)] w (W_nil (N_then (G_seq (G_region (wR 2 [(0, .slice g f.length h), (6, iv (f.length : Int))] w ?_)))))))
 obtain ⟨y, I, hm⟩ := gx_bind hm
 refine W_make (E := Gx.encI) _ _ _ (f.length : Int) 8 [iv 0] (0 : Int) M0 (by kernel_rfl) rfl (by kernel_rfl) (by kernel_rfl) (by kernel_rfl) (by kernel_rfl) (by kernel_rfl) I ?_
 intro c d Q B K C
 refine wR 1 [(0, .slice g f.length h), (3, .slice c y.length d)] B (W_nil (N_then (G_seq (G_seq (G_region (wR 1 [(0, .slice g f.length h), (3, .slice c y.length d), (4, iv 0)] B (W_nil (N_then ?_))))))))
 obtain ⟨l, P, J⟩ := gx_bind hm
 refine G_meet (fun a w' => ∃ (n : Seg), ownS Gx.encI l c d n ∧ Mem [] w w' [n] ∧ Sat Try.f15.ntmps [(3, .slice c l.length d)] a) ?_ ?_
 ·refine G_block (G_while (σ := Int × List Int) (ρ := List Int) (fun b a w' => ∃ (m : Seg), ownS Gx.encI b.2 c d m ∧ Mem [] w w' [m] ∧ Sat Try.f15.ntmps [(0, .slice g f.length h), (3, .slice c b.2.length d), (4, iv b.1)] a) P (fun a ha => ⟨Q, K, C.pk [0], ha.s⟩) ?_)
  clear hm
  intro b X hm O V k ⟨m, q, j, G⟩
  refine G_use G (G_seq (G_seq (G_region (wR 4 [(0, .slice g f.length h), (3, .slice c b.2.length d), (4, iv b.1), (11, .bool (decide (b.1 < (f.length : Int))))] k (W_nil (N_then ?_))))))
  rcases gx_bif hm with ⟨o, hm⟩ | ⟨o, hm⟩
  ·refine gT o (G_skip (N_then (G_seq (G_block (G_region (wR 4 [(0, .slice g f.length h), (3, .slice c b.2.length d), (4, iv b.1), (14, .slice c b.2.length d), (15, iv b.1), (16, .slice g f.length h), (17, iv b.1)] k ?_))))))
   obtain ⟨i, v, hm⟩ := gx_bind hm
   refine wV (elemP g (b.1.toNat * 1)) k (eI (u.mem0 j) rfl v) (wV (iv i) k (eE false 1 0 (b.1.toNat * 1) (u.mem0 j) v) ?_)
   obtain ⟨U, x, hm⟩ := gx_bind hm
   refine wV (elemP c (b.1.toNat * 1)) k (eI (q.rd j 0 (by kernel_rfl)) rfl x) (wE false 1 b.1.toNat 0 (b.1.toNat * 1) U i (iv i) 0 j q (gxIdx_spec x).2 ?_)
   intro S R N D
   refine wX 3 (.slice c b.2.length d) (.slice c (b.2.set b.1.toNat i).length d) (by rw [@List.length_set _ b.2 b.1.toNat i]) (wX 14 (.slice c b.2.length d) (.slice c (b.2.set b.1.toNat i).length d) (by rw [@List.length_set _ b.2 b.1.toNat i]) (W_nil (N_block (N_then (G_region (wR 3 [(0, .slice g f.length h), (3, .slice c (b.2.set b.1.toNat i).length d), (4, iv (w64 (b.1 + 1)))] S (W_nil ?_)))))))
   obtain rfl := Option.some.inj hm
   exact N_loop fun a ha => ⟨_, rfl, R, N, D.pk [0], ha.s⟩
  refine gF o (G_exit (N_then_exit (N_then_exit (N_block_eq ?_))))
  obtain rfl := Option.some.inj hm
  obtain rfl := O _ rfl
  exact N_meet fun a ha => ⟨m, q, j.pk [0], ha.s⟩
 intro W T ⟨n, L, F, H⟩
 refine N_use H ?_
 have hm := J
 refine N_then (G_seq (G_region (wR 2 [(2, .slice c l.length d)] T (W_nil (N_then (G_ret ?_))))))
 obtain rfl := Option.some.inj hm
 exact N_ret [.slice c l.length d] (rC RVs_nil) (⟨c, d, n, rfl, L, F.pk [0]⟩)
theorem c_l_toBalloon (w : World) (a : Balloon) (m : Option Addr) (l : Nat) (I : rdS Gx.encI w a.Gave m l) {r : Balloon} (hm : M.l_toBalloon a = some r) :
  Calls Try.prog 48 #[.agg #[iv a.Guest, iv a.Goal, .slice m a.Gave.length l]] w fun e w' => ∃ (C : Option Addr) (B : Nat) (D : Seg), e = .returned (.agg #[iv r.Guest, iv r.Goal, .slice C r.Gave.length B]) ∧ ownS Gx.encI r.Gave C B D ∧ Mem [] w w' [D] := by
 unfold M.l_toBalloon at hm
 refine cE Try.func48 ?_
 have M0 := Mem.refl [] w
 refine G_seq (G_region (wN (.cells ⟨[iv a.Guest, iv a.Goal, .slice m a.Gave.length l]⟩ 56 (0, 0)) M0 ?_))
 intro j P F
 refine wN (.cells ⟨[iv 0, iv 0, .slice none 0 0]⟩ 50 (0, 0)) F ?_
 intro i Q G
 refine W_nil (N_then (G_seq (G_region (wN (.cells ⟨[iv 0, iv 0, .slice none 0 0]⟩ 50 (0, 0)) G ?_))))
 intro h q x
 refine W_nil (N_then (G_seq (G_region (wR 1 [(1, pB j 0), (2, pB i 0), (3, pB h 0), (4, pB j 0)] q (wV (iv a.Guest) q (eL false 1 0 (x.blk 0 rfl)) (wR 1 [(1, pB j 0), (2, pB i 0), (3, pB h 0), (5, iv a.Guest), (6, pB h 0)] q (wS false 1 0 (iv a.Guest) 2 [iv a.Guest, iv 0, .slice none 0 0] x rfl ?_)))))))
 intro t y
 refine W_nil (N_then (G_seq (G_region (wR 1 [(1, pB j 0), (2, pB i 0), (3, pB h 0), (7, pB j 1)] t (wV (iv a.Goal) t (eL false 1 1 (y.blk 0 rfl)) (wR 1 [(1, pB j 0), (2, pB i 0), (3, pB h 0), (8, iv a.Goal), (9, pB h 1)] t (wS false 1 1 (iv a.Goal) 2 [iv a.Guest, iv a.Goal, .slice none 0 0] y rfl ?_)))))))
 intro u n
 refine W_nil (N_then (G_seq (G_region (wR 1 [(2, pB i 0), (3, pB h 0), (10, pB j 2)] u (wV (.slice m a.Gave.length l) u (eL false 1 2 (n.blk 0 rfl)) ?_)))))
 obtain ⟨f, K, hm⟩ := gx_bind hm
 refine wC 15 #[.slice m a.Gave.length l] ((c_l_toIntS u a.Gave m l (I.mem0 n) K).mono ?_)
 rintro e_ N ⟨d, c, L, rfl, J, E⟩
 have H := n.call E
 refine ⟨_, rfl, ?_⟩
 refine wR 1 [(2, pB i 0), (3, pB h 0), (12, .slice d f.length c), (13, pB h 2)] N (wS false 1 2 (.slice d f.length c) 2 [iv a.Guest, iv a.Goal, .slice d f.length c] H rfl ?_)
 intro O z
 refine W_nil (N_then (G_seq (G_region (wV (.agg #[iv a.Guest, iv a.Goal, .slice d f.length c]) O (eL true 3 0 (z.blk 2 rfl)) (wS true 3 0 (.agg #[iv a.Guest, iv a.Goal, .slice d f.length c]) 1 [iv a.Guest, iv a.Goal, .slice d f.length c] z rfl ?_)))))
 intro R A
 refine W_nil (N_then (G_ret ?_))
 obtain rfl := Option.some.inj hm
 exact N_ret [.agg #[iv a.Guest, iv a.Goal, .slice d f.length c]] (RVs_cons (RV_cell (g := true) (k := 3) (b := i) (off := 0) (cs := [iv a.Guest, iv a.Goal, .slice d f.length c]) (e := 50) (fr := (0, 0)) (v := .agg #[iv a.Guest, iv a.Goal, .slice d f.length c]) (A.blk 1 (b := i) (o := .cells ⟨[iv a.Guest, iv a.Goal, .slice d f.length c]⟩ 50 (0, 0)) (by kernel_rfl)) (by kernel_rfl) (by kernel_rfl) (by kernel_rfl)) RVs_nil) (⟨d, c, L, rfl, J, A.pk [3]⟩)
theorem c_l_toBalloonS (w : World) (f : List Balloon) (h : Option Addr) (j : Nat) (af : rdD deepBalloon w f h j) {r : (List Balloon)} (hm : M.l_toBalloonS f = some r) :
  Calls Try.prog 16 #[.slice h f.length j] w fun e w' => ∃ (T : Option Addr) (L : Nat) (U : Seg) (V : Seg), e = .returned (.slice T r.length L) ∧ ownD deepBalloon r T L U V ∧ Mem [] w w' [U, V] := by
 unfold M.l_toBalloonS at hm
 refine cE Try.func16 ?_
 have M0 := Mem.refl [] w
 refine G_seq (G_region (wR 1 [(0, .slice h f.length j)] w (W_nil (N_then (G_seq (G_region (wR 2 [(0, .slice h f.length j), (6, iv (f.length : Int))] w ?_)))))))
 obtain ⟨S, ak, hm⟩ := gx_bind hm
 refine W_makeD (D := deepBalloon) _ _ _ (f.length : Int) 40 [iv 0, iv 0, .slice none 0 0] ((⟨0, 0, []⟩ : Balloon) : Balloon) (plOf []) M0 (by kernel_rfl) rfl (by kernel_rfl) (by kernel_rfl) (by kernel_rfl) (by kernel_rfl) (by kernel_rfl) (by intro i hi; simp [deepBalloon] at hi; first | (subst hi; exact ⟨rfl, rfl, rfl⟩) | (rcases hi with rfl | rfl | rfl <;> exact ⟨rfl, rfl, rfl⟩) | (rcases hi with rfl | rfl <;> exact ⟨rfl, rfl, rfl⟩)) ak ?_
 intro c d a3 W N Y
 have J := Y.addNil
 obtain ⟨az, n191e⟩ : ∃ s : Seg, s = [] := ⟨_, rfl⟩
 rw [← n191e] at N J
 refine wR 1 [(0, .slice h f.length j), (3, .slice c S.length d)] W (W_nil (N_then (G_seq (G_seq (G_region (wR 1 [(0, .slice h f.length j), (3, .slice c S.length d), (4, iv 0)] W (W_nil (N_then ?_))))))))
 obtain ⟨x, aw, al⟩ := gx_bind hm
 refine G_meet (fun a w' => ∃ (B : Seg), ∃ (C : Seg), ownD deepBalloon x c d B C ∧ Mem [] w w' [B, C] ∧ Sat Try.f16.ntmps [(3, .slice c x.length d)] a) ?_ ?_
 ·refine G_block (G_while (σ := Int × List Balloon) (ρ := List Balloon) (fun b a w' => ∃ (z : Seg), ∃ (A : Seg), ownD deepBalloon b.2 c d z A ∧ Mem [] w w' [z, A] ∧ Sat Try.f16.ntmps [(0, .slice h f.length j), (3, .slice c b.2.length d), (4, iv b.1)] a) aw (fun a ha => ⟨a3, az, N, J.pk [0, 1], ha.s⟩) ?_)
  clear hm
  intro b bb hm aq a7 q ⟨z, A, O, m, ag⟩
  refine G_use ag (G_seq (G_seq (G_region (wR 4 [(0, .slice h f.length j), (3, .slice c b.2.length d), (4, iv b.1), (11, .bool (decide (b.1 < (f.length : Int))))] q (W_nil (N_then ?_))))))
  rcases gx_bif hm with ⟨G, hm⟩ | ⟨G, hm⟩
  ·refine gT G (G_skip (N_then (G_seq (G_block (G_region (wR 4 [(0, .slice h f.length j), (3, .slice c b.2.length d), (4, iv b.1), (14, .slice c b.2.length d), (15, iv b.1), (16, .slice h f.length j), (17, iv b.1)] q ?_))))))
   obtain ⟨l, ax, hm⟩ := gx_bind hm
   obtain ⟨bc, R, P, ai⟩ := id af
   obtain ⟨k, H⟩ := gxIdx_fst R ax
   refine wV (elemP h (b.1.toNat * 3)) q (eI (P.mem0 m) (len_fst R) H) (wV (.agg #[iv l.Guest, iv l.Goal, .slice ((k 0).1) l.Gave.length ((k 0).2)]) q (eE true 3 0 (b.1.toNat * 3) (P.mem0 m) H) ?_)
   obtain ⟨g, au, hm⟩ := gx_bind hm
   refine wC 48 #[.agg #[iv l.Guest, iv l.Goal, .slice ((k 0).1) l.Gave.length ((k 0).2)]] ((c_l_toBalloon q l ((k 0).1) ((k 0).2) ((ai.mem0 m).at_ H 0 ⟨Int, Gx.encI, l.Gave, (k 0).1, (k 0).2⟩ (by kernel_rfl)) au).mono ?_)
   rintro e_ a4 ⟨y, t, E, rfl, an, X⟩
   have K := m.call X
   refine ⟨_, rfl, ?_⟩
   obtain ⟨a6, ay, hm⟩ := gx_bind hm
   obtain ⟨bd, v, Q, aj⟩ := id O
   obtain ⟨ae, u⟩ := gxIdx_fst v ay
   refine wV (elemP c (b.1.toNat * 3)) a4 (eI (Q.rd K 0 (by kernel_rfl)) (len_fst v) u) ?_
   obtain ⟨n, a0, o, av, a9, ar⟩ := aj.lens (gxIdx_spec u).2
   have Z := K.cut 1 (sa := n) (sb := a0) (sc := o) av (by kernel_rfl)
   refine wE true 3 b.1.toNat 0 (b.1.toNat * 3) (a6, ae) (g, (plOf [(y, t)])) (.agg #[iv g.Guest, iv g.Goal, .slice y g.Gave.length t]) 0 Z Q (gxIdx_spec u).2 ?_
   intro I F ao aa
   have ab : Mem [] w I [F, n, E, o] := aa.pk [0, 1, 2, 4]
   have ac : Mem [] w I [F, (n ++ ((E ++ []) ++ o))] := ab.regroup (by simp)
   have ap : ownD deepBalloon (b.2.set b.1.toNat g) c d F (n ++ ((E ++ []) ++ o)) := ⟨_, set_fst v b.1.toNat (g, (plOf [(y, t)])), ao, (ar (g, (plOf [(y, t)])) _ (ownI_cons (i := ⟨Int, Gx.encI, _, _, _⟩) an ownI_nil))⟩
   have ba := gxIdx_put g (gxIdx_down v u)
   refine wX 3 (.slice c b.2.length d) (.slice c (b.2.set b.1.toNat g).length d) (by rw [@List.length_set _ b.2 b.1.toNat g]) (wX 14 (.slice c b.2.length d) (.slice c (b.2.set b.1.toNat g).length d) (by rw [@List.length_set _ b.2 b.1.toNat g]) (W_nil (N_block (N_then (G_region (wR 3 [(0, .slice h f.length j), (3, .slice c (b.2.set b.1.toNat g).length d), (4, iv (w64 (b.1 + 1)))] I (W_nil ?_)))))))
   obtain rfl := Option.some.inj hm
   exact N_loop fun a ha => ⟨_, rfl, F, (n ++ ((E ++ []) ++ o)), ap, ac.pk [0, 1], ha.s⟩
  refine gF G (G_exit (N_then_exit (N_then_exit (N_block_eq ?_))))
  obtain rfl := Option.some.inj hm
  obtain rfl := aq _ rfl
  exact N_meet fun a ha => ⟨z, A, O, m.pk [0, 1], ha.s⟩
 intro a8 a5 ⟨B, C, am, ad, ah⟩
 refine N_use ah ?_
 have hm := al
 refine N_then (G_seq (G_region (wR 2 [(2, .slice c x.length d)] a5 (W_nil (N_then (G_ret ?_))))))
 obtain rfl := Option.some.inj hm
 exact N_ret [.slice c x.length d] (rC RVs_nil) (⟨c, d, B, C, rfl, am, ad.pk [0, 1]⟩)
theorem c_s_l1In (w : World) (b : Int) (d : Int) (c : Int) {r : Bool} (hm : M.s_l1In b d c = some r) :
  Calls Try.prog 57 #[iv b, iv d, iv c] w fun e w' => e = .returned (.bool r) ∧ Mem [] w w' [] := by
 unfold M.s_l1In at hm
 refine cE Try.func57 ?_
 have M0 := Mem.refl [] w
 refine G_seq (G_region (wR 1 [(0, iv b), (1, iv d), (2, iv c)] w (W_nil (N_then (G_seq ?_)))))
 obtain ⟨g, k, j⟩ := gx_bind hm
 refine G_meet (fun a w' => Mem [] w w' [] ∧ Sat Try.f57.ntmps [(6, .bool g)] a) ?_ ?_
 ·have hm := k
  refine G_region (wR 4 [(0, iv b), (2, iv c), (10, .bool (decide (b ≥ d)))] w ?_)
  rcases gx_bif hm with ⟨f, hm⟩ | ⟨f, hm⟩
  ·refine wK 10 true f (wR 5 [(6, .bool (decide (b ≤ c)))] w (W_nil ?_))
   obtain rfl := Option.some.inj hm
   exact N_meet fun a ha => ⟨M0.pk [], ha.s⟩
  refine wK 10 false f (wR 5 [(6, .bool false)] w (W_nil ?_))
  obtain rfl := Option.some.inj hm
  exact N_meet fun a ha => ⟨M0.pk [], ha.s⟩
 intro l m ⟨h, i⟩
 refine N_use i ?_
 have hm := j
 refine N_then (G_ret ?_)
 obtain rfl := Option.some.inj hm
 exact N_ret [.bool g] (rC RVs_nil) (⟨rfl, h.pk []⟩)
theorem c_s_l2Good (w : World) (b : List Int) (c : Option Addr) (d : Nat) (n : rdS Gx.encI w b c d) {r : Bool} (hm : M.s_l2Good b = some r) :
  Calls Try.prog 79 #[.slice c b.length d] w fun e w' => e = .returned (.bool r) ∧ Mem [] w w' [] := by
 unfold M.s_l2Good at hm
 refine cE Try.func79 ?_
 have M0 := Mem.refl [] w
 refine G_seq (G_region (wR 1 [(0, .slice c b.length d)] w (W_nil (N_then (G_seq (G_seq (G_region (wR 1 [(0, .slice c b.length d), (3, iv 0)] w (W_nil (N_then ?_))))))))))
 obtain ⟨H, G, o⟩ := gx_bind hm
 refine G_meet (fun a w' => ∃ (u : Unit), H = .inl u ∧ Mem [] w w' [] ∧ Sat Try.f79.ntmps [(0, .slice c b.length d)] a) ?_ ?_
 ·refine G_block (G_while (σ := Int) (ρ := (Unit) ⊕ (Bool)) (fun f a w' => Mem [] w w' [] ∧ Sat Try.f79.ntmps [(0, .slice c b.length d), (3, iv f)] a) G (fun a ha => ⟨M0.pk [], ha.s⟩) ?_)
  clear hm
  intro f N hm q K g ⟨h, C⟩
  refine G_use C (G_seq (G_seq (G_region (wR 4 [(0, .slice c b.length d), (3, iv f), (7, .bool (decide (f < (b.length : Int))))] g (W_nil (N_then ?_))))))
  rcases gx_bif hm with ⟨i, hm⟩ | ⟨i, hm⟩
  ·refine gT i (G_skip (N_then (G_seq (G_block (G_seq (G_region (wR 2 [(0, .slice c b.length d), (3, iv f), (10, .slice c b.length d), (11, iv f)] g ?_)))))))
   obtain ⟨l, t, hm⟩ := gx_bind hm
   refine wV (elemP c (f.toNat * 1)) g (eI (n.mem0 h) rfl t) (wV (iv l) g (eE false 1 0 (f.toNat * 1) (n.mem0 h) t) ?_)
   obtain ⟨I, E, hm⟩ := gx_bind hm
   refine wC 57 #[iv l, iv 0, iv 4] ((c_s_l1In g l 0 4 E).mono ?_)
   rintro e_ k ⟨rfl, y⟩
   have m := h.call0 y
   refine ⟨_, rfl, ?_⟩
   refine wR 1 [(0, .slice c b.length d), (3, iv f), (15, .bool (!I))] k (W_nil (N_then ?_))
   rcases gx_bif hm with ⟨j, hm⟩ | ⟨j, hm⟩
   ·refine gT j (G_seq (G_region (wR 1 [(2, .bool false)] k (W_nil (N_then (G_ret (N_block_ret (N_then_ret (N_then_ret ?_)))))))))
    obtain rfl := Option.some.inj hm
    obtain rfl := q _ rfl
    have hm := o; simp only [Sum.elim_inr] at hm
    refine N_block_ret (N_meet_ret (N_then_ret ?_))
    obtain rfl := Option.some.inj hm
    exact N_ret [.bool false] (rC RVs_nil) (⟨rfl, m.pk []⟩)
   refine gF j (G_skip (N_block (N_then (G_region (wR 3 [(0, .slice c b.length d), (3, iv (w64 (f + 1)))] k (W_nil ?_))))))
   obtain rfl := Option.some.inj hm
   exact N_loop fun a ha => ⟨_, rfl, m.pk [], ha.s⟩
  refine gF i (G_exit (N_then_exit (N_then_exit (N_block_eq ?_))))
  obtain rfl := Option.some.inj hm
  obtain rfl := q _ rfl
  exact N_meet fun a ha => ⟨_, rfl, h.pk [], ha.s⟩
 intro L x ⟨u, hout_, A, D⟩
 refine N_use D ?_
 subst hout_
 have hm := o; simp only [Sum.elim_inl] at hm
 refine N_then (G_seq (G_region (wR 2 [(17, iv (b.length : Int))] x ?_)))
 obtain ⟨v, F, hm⟩ := gx_bind hm
 refine wC 57 #[iv (b.length : Int), iv 1, iv 16] ((c_s_l1In x (b.length : Int) 1 16 F).mono ?_)
 rintro e_ J ⟨rfl, z⟩
 have B := A.call0 z
 refine ⟨_, rfl, ?_⟩
 refine wR 1 [(2, .bool v)] J (W_nil (N_then (G_ret ?_)))
 obtain rfl := Option.some.inj hm
 exact N_ret [.bool v] (rC RVs_nil) (⟨rfl, B.pk []⟩)
theorem c_s_l1Rising (w : World) (d : List Int) (c : Option Addr) (f : Nat) (i : rdS Gx.encI w d c f) (g : Int) (h : Int) {r : Bool} (hm : M.s_l1Rising d g h = some r) :
  Calls Try.prog 80 #[.slice c d.length f, iv g, iv h] w fun e w' => e = .returned (.bool r) ∧ Mem [] w w' [] := by
 unfold M.s_l1Rising at hm
 refine cE Try.func80 ?_
 have M0 := Mem.refl [] w
 refine G_seq (G_region (wR 1 [(0, .slice c d.length f), (1, iv g), (2, iv h)] w (W_nil (N_then (G_seq (G_seq (G_region (wR 1 [(0, .slice c d.length f), (1, iv g), (2, iv h), (7, iv 0)] w (W_nil (N_then ?_))))))))))
 obtain ⟨Q, O, x⟩ := gx_bind hm
 refine G_meet (fun a w' => ∃ (C : Unit), Q = .inl C ∧ Mem [] w w' [] ∧ Sat Try.f80.ntmps [] a) ?_ ?_
 ·refine G_block (G_while (σ := Int) (ρ := (Unit) ⊕ (Bool)) (fun b a w' => Mem [] w w' [] ∧ Sat Try.f80.ntmps [(0, .slice c d.length f), (1, iv g), (2, iv h), (7, iv b)] a) O (fun a ha => ⟨M0.pk [], ha.s⟩) ?_)
  clear hm
  intro b X hm y T R ⟨u, H⟩
  refine G_use H (G_seq (G_seq (G_region (wR 4 [(0, .slice c d.length f), (1, iv g), (2, iv h), (7, iv b), (11, .bool (decide (b < (d.length : Int))))] R (W_nil (N_then ?_))))))
  rcases gx_bif hm with ⟨n, hm⟩ | ⟨n, hm⟩
  ·refine gT n (G_skip (N_then (G_seq (G_block (G_seq ?_)))))
   obtain ⟨P, L, K⟩ := gx_bind hm
   refine G_meet (fun a w' => Mem [] w w' [] ∧ Sat Try.f80.ntmps [(0, .slice c d.length f), (1, iv g), (2, iv h), (7, iv b), (37, .bool P)] a) ?_ ?_
   ·have hm := L
    refine G_quiet (by kernel_rfl) (by kernel_rfl) u (zR [.slice c d.length f, iv b] [(0, .slice c d.length f), (1, iv g), (2, iv h), (7, iv b), (14, .slice c d.length f), (15, iv b)] ?_)
    obtain ⟨m, z, hm⟩ := gx_bind hm
    refine zV (elemP c (b.toNat * 1)) (fun w_ M_ => (eI (i.mem0 M_) rfl z)) (zV (iv m) (fun w_ M_ => (eE false 1 0 (b.toNat * 1) (i.mem0 M_) z)) (zR [iv g, iv h] [(0, .slice c d.length f), (1, iv g), (2, iv h), (7, iv b), (17, iv m), (18, iv g), (19, iv h)] ?_))
    obtain ⟨l, N, hm⟩ := gx_bind hm
    refine Z_call 57 #[iv m, iv g, iv h] (.bool l) (by kernel_rfl) (fun w_ => by kernel_rfl) (fun w_ M_ => (c_s_l1In w_ m g h N).mono fun e w2_ h_ => ⟨h_.1, M_.call0 h_.2⟩) (zR [.bool (!l), .bool (!l)] [(0, .slice c d.length f), (1, iv g), (2, iv h), (7, iv b), (22, .bool (!l))] ?_)
    rcases gx_bif hm with ⟨o, hm⟩ | ⟨o, hm⟩
    ·refine zK 22 true o (zR [undef, undef, undef, undef, undef, undef, undef, undef, undef, undef, undef, undef, undef, undef, .bool true] [(0, .slice c d.length f), (1, iv g), (2, iv h), (7, iv b), (37, .bool true)] (Z_end fun W D => ?_))
     obtain rfl := Option.some.inj hm
     exact N_meet fun a ha => ⟨D.pk [], ha.s⟩
    refine zK 22 false o (zR [iv b, .bool (decide (b > 0)), .bool (decide (b > 0))] [(0, .slice c d.length f), (1, iv g), (2, iv h), (7, iv b), (22, .bool false), (25, .bool (decide (b > 0)))] ?_)
    rcases gx_bif hm with ⟨q, hm⟩ | ⟨q, hm⟩
    ·refine zK 25 true q (zR [.slice c d.length f, iv b, iv (w64 (b - 1))] [(0, .slice c d.length f), (1, iv g), (2, iv h), (7, iv b), (22, .bool false), (25, .bool true), (26, .slice c d.length f), (28, iv (w64 (b - 1)))] ?_)
     obtain ⟨j, A, hm⟩ := gx_bind hm
     refine zV (elemP c ((w64 (b - 1)).toNat * 1)) (fun w_ M_ => (eI (i.mem0 M_) rfl A)) (zV (iv j) (fun w_ M_ => (eE false 1 0 ((w64 (b - 1)).toNat * 1) (i.mem0 M_) A)) (zR [.slice c d.length f, iv b] [(0, .slice c d.length f), (1, iv g), (2, iv h), (7, iv b), (22, .bool false), (25, .bool true), (30, iv j), (31, .slice c d.length f), (32, iv b)] ?_))
     obtain ⟨k, B, hm⟩ := gx_bind hm
     refine zV (elemP c (b.toNat * 1)) (fun w_ M_ => (eI (i.mem0 M_) rfl B)) (zV (iv k) (fun w_ M_ => (eE false 1 0 (b.toNat * 1) (i.mem0 M_) B)) (zR [.bool (decide (j ≥ k)), .bool (decide (j ≥ k)), .bool (decide (j ≥ k))] [(0, .slice c d.length f), (1, iv g), (2, iv h), (7, iv b), (37, .bool (decide (j ≥ k)))] (Z_end fun w644 E => ?_)))
     obtain rfl := Option.some.inj hm
     exact N_meet fun a ha => ⟨E.pk [], ha.s⟩
    refine zK 25 false q (zR [undef, undef, undef, undef, undef, undef, undef, undef, undef, undef, .bool false, .bool false] [(0, .slice c d.length f), (1, iv g), (2, iv h), (7, iv b), (37, .bool false)] (Z_end fun w646 F => ?_))
    obtain rfl := Option.some.inj hm
    exact N_meet fun a ha => ⟨F.pk [], ha.s⟩
   intro U w648 ⟨v, I⟩
   refine N_use I ?_
   have hm := K
   refine N_then ?_
   rcases gx_bif hm with ⟨t, hm⟩ | ⟨t, hm⟩
   ·refine gT t (G_seq (G_region (wR 1 [(6, .bool false)] w648 (W_nil (N_then (G_ret (N_block_ret (N_then_ret (N_then_ret ?_)))))))))
    obtain rfl := Option.some.inj hm
    obtain rfl := y _ rfl
    have hm := x; simp only [Sum.elim_inr] at hm
    refine N_block_ret (N_meet_ret (N_then_ret ?_))
    obtain rfl := Option.some.inj hm
    exact N_ret [.bool false] (rC RVs_nil) (⟨rfl, v.pk []⟩)
   refine gF t (G_skip (N_block (N_then (G_region (wR 3 [(0, .slice c d.length f), (1, iv g), (2, iv h), (7, iv (w64 (b + 1)))] w648 (W_nil ?_))))))
   obtain rfl := Option.some.inj hm
   exact N_loop fun a ha => ⟨_, rfl, v.pk [], ha.s⟩
  refine gF n (G_exit (N_then_exit (N_then_exit (N_block_eq ?_))))
  obtain rfl := Option.some.inj hm
  obtain rfl := y _ rfl
  exact N_meet fun a ha => ⟨_, rfl, u.pk [], ha.s⟩
 intro V S ⟨C, hout_, G, J⟩
 refine N_use J ?_
 subst hout_
 have hm := x; simp only [Sum.elim_inl] at hm
 refine N_then (G_seq (G_region (wR 1 [(6, .bool true)] S (W_nil (N_then (G_ret ?_))))))
 obtain rfl := Option.some.inj hm
 exact N_ret [.bool true] (rC RVs_nil) (⟨rfl, G.pk []⟩)
theorem c_s_l1Has (w : World) (b : List Int) (c : Option Addr) (d : Nat) (l : rdS Gx.encI w b c d) (g : Int) {r : Bool} (hm : M.s_l1Has b g = some r) :
  Calls Try.prog 81 #[.slice c b.length d, iv g] w fun e w' => e = .returned (.bool r) ∧ Mem [] w w' [] := by
 unfold M.s_l1Has at hm
 refine cE Try.func81 ?_
 have M0 := Mem.refl [] w
 refine G_seq (G_region (wR 1 [(0, .slice c b.length d), (1, iv g)] w (W_nil (N_then (G_seq (G_seq (G_region (wR 1 [(0, .slice c b.length d), (1, iv g), (5, iv 0)] w (W_nil (N_then ?_))))))))))
 obtain ⟨z, y, m⟩ := gx_bind hm
 refine G_meet (fun a w' => ∃ (q : Unit), z = .inl q ∧ Mem [] w w' [] ∧ Sat Try.f81.ntmps [] a) ?_ ?_
 ·refine G_block (G_while (σ := Int) (ρ := (Unit) ⊕ (Bool)) (fun f a w' => Mem [] w w' [] ∧ Sat Try.f81.ntmps [(0, .slice c b.length d), (1, iv g), (5, iv f)] a) y (fun a ha => ⟨M0.pk [], ha.s⟩) ?_)
  clear hm
  intro f D hm n B h ⟨i, v⟩
  refine G_use v (G_seq (G_seq (G_region (wR 4 [(0, .slice c b.length d), (1, iv g), (5, iv f), (9, .bool (decide (f < (b.length : Int))))] h (W_nil (N_then ?_))))))
  rcases gx_bif hm with ⟨j, hm⟩ | ⟨j, hm⟩
  ·refine gT j (G_skip (N_then (G_seq (G_block (G_seq (G_region (wR 2 [(0, .slice c b.length d), (1, iv g), (5, iv f), (12, .slice c b.length d), (13, iv f)] h ?_)))))))
   obtain ⟨t, o, hm⟩ := gx_bind hm
   refine wV (elemP c (f.toNat * 1)) h (eI (l.mem0 i) rfl o) (wV (iv t) h (eE false 1 0 (f.toNat * 1) (l.mem0 i) o) (wR 2 [(0, .slice c b.length d), (1, iv g), (5, iv f), (17, .bool (t == g))] h (W_nil (N_then ?_))))
   rcases gx_bif hm with ⟨k, hm⟩ | ⟨k, hm⟩
   ·refine gT k (G_seq (G_region (wR 1 [(4, .bool true)] h (W_nil (N_then (G_ret (N_block_ret (N_then_ret (N_then_ret ?_)))))))))
    obtain rfl := Option.some.inj hm
    obtain rfl := n _ rfl
    have hm := m; simp only [Sum.elim_inr] at hm
    refine N_block_ret (N_meet_ret (N_then_ret ?_))
    obtain rfl := Option.some.inj hm
    exact N_ret [.bool true] (rC RVs_nil) (⟨rfl, i.pk []⟩)
   refine gF k (G_skip (N_block (N_then (G_region (wR 3 [(0, .slice c b.length d), (1, iv g), (5, iv (w64 (f + 1)))] h (W_nil ?_))))))
   obtain rfl := Option.some.inj hm
   exact N_loop fun a ha => ⟨_, rfl, i.pk [], ha.s⟩
  refine gF j (G_exit (N_then_exit (N_then_exit (N_block_eq ?_))))
  obtain rfl := Option.some.inj hm
  obtain rfl := n _ rfl
  exact N_meet fun a ha => ⟨_, rfl, i.pk [], ha.s⟩
 intro C A ⟨q, hout_, u, x⟩
 refine N_use x ?_
 subst hout_
 have hm := m; simp only [Sum.elim_inl] at hm
 refine N_then (G_seq (G_region (wR 1 [(4, .bool false)] A (W_nil (N_then (G_ret ?_))))))
 obtain rfl := Option.some.inj hm
 exact N_ret [.bool false] (rC RVs_nil) (⟨rfl, u.pk []⟩)
theorem c_s_l18Good (w : World) (c : List Int) (g : Option Addr) (h : Nat) (L : rdS Gx.encI w c g h) (k : List Balloon) (i : Option Addr) (l : Nat) (be : rdD deepBalloon w k i l) {r : Bool} (hm : M.s_l18Good c k = some r) :
  Calls Try.prog 47 #[.slice g c.length h, .slice i k.length l] w fun e w' => e = .returned (.bool r) ∧ Mem [] w w' [] := by
 unfold M.s_l18Good at hm
 refine cE Try.func47 ?_
 have M0 := Mem.refl [] w
 refine G_seq (G_region (wR 1 [(0, .slice g c.length h), (1, .slice i k.length l)] w (W_nil (N_then (G_seq (G_seq (G_region (wR 1 [(0, .slice g c.length h), (1, .slice i k.length l), (9, .slice g c.length h)] w ?_))))))))
 obtain ⟨b8, bx, hm⟩ := gx_bind hm
 refine wC 79 #[.slice g c.length h] ((c_s_l2Good w c g h (L.mem0 M0) bx).mono ?_)
 rintro e_ aw ⟨rfl, a0⟩
 have ag := M0.call0 a0
 refine ⟨_, rfl, ?_⟩
 refine wR 1 [(0, .slice g c.length h), (1, .slice i k.length l), (11, .bool (!b8))] aw (W_nil (N_then ?_))
 rcases gx_bif hm with ⟨W, hm⟩ | ⟨W, hm⟩
 ·refine gT W (G_seq (G_region (wR 1 [(4, .bool false)] aw (W_nil (N_then (G_ret (N_then_ret ?_)))))))
  obtain rfl := Option.some.inj hm
  exact N_ret [.bool false] (rC RVs_nil) (⟨rfl, ag.pk []⟩)
 refine gF W (G_skip (N_then (G_seq (G_region (wL (E := Gx.encI) ([] : List Int) 0 [] 3 ag ?_)))))
 intro ab K ca ax br bd
 refine wR 1 [(0, .slice g c.length h), (1, .slice i k.length l), (5, .slice ab ([] : List Int).length K)] ax (W_nil (N_then (G_seq (G_seq (G_region (wR 1 [(0, .slice g c.length h), (1, .slice i k.length l), (5, .slice ab ([] : List Int).length K), (6, iv 0)] ax (W_nil (N_then ?_))))))))
 obtain ⟨b5, bz, Y⟩ := gx_bind hm
 refine G_meet (fun a w' => ∃ (ao : Unit), b5 = .inl ao ∧ Mem [] w w' [] ∧ Sat Try.f47.ntmps [] a) ?_ ?_
 ·refine G_block (G_while (σ := List Int × Int) (ρ := (Unit) ⊕ (Bool)) (fun b a w' => ∃ (n : Option Addr), ∃ (m : Nat), ∃ (x : Seg), ownS Gx.encI b.1 n m x ∧ Mem [] w w' [x] ∧ Sat Try.f47.ntmps [(0, .slice g c.length h), (1, .slice i k.length l), (5, .slice n b.1.length m), (6, iv b.2)] a) bz (fun a ha => ⟨ab, K, ca, br, bd.pk [0], ha.s⟩) ?_)
  clear hm
  intro b cr hm Z cd H ⟨n, m, x, aj, B, bf⟩
  refine G_use bf (G_seq (G_seq (G_region (wR 4 [(0, .slice g c.length h), (1, .slice i k.length l), (5, .slice n b.1.length m), (6, iv b.2), (16, .bool (decide (b.2 < (k.length : Int))))] H (W_nil (N_then ?_))))))
  rcases gx_bif hm with ⟨N, hm⟩ | ⟨N, hm⟩
  ·refine gT N (G_skip (N_then (G_seq (G_block (G_seq (G_region (wR 2 [(0, .slice g c.length h), (1, .slice i k.length l), (5, .slice n b.1.length m), (6, iv b.2), (19, .slice i k.length l), (20, iv b.2)] H ?_)))))))
   obtain ⟨f, b1, hm⟩ := gx_bind hm
   obtain ⟨ct, C, z, v⟩ := id be
   obtain ⟨d, u⟩ := gxIdx_fst C b1
   refine wV (elemP i (b.2.toNat * 3)) H (eI (z.mem0 B) (len_fst C) u) (wV (.agg #[iv f.Guest, iv f.Goal, .slice ((d 0).1) f.Gave.length ((d 0).2)]) H (eE true 3 0 (b.2.toNat * 3) (z.mem0 B) u) (wN (.cells ⟨[iv 0, iv 0, .slice none 0 0]⟩ 50 (0, 0)) B ?_))
   intro j ck a3
   refine wS true 3 0 (.agg #[iv f.Guest, iv f.Goal, .slice ((d 0).1) f.Gave.length ((d 0).2)]) 1 [iv f.Guest, iv f.Goal, .slice ((d 0).1) f.Gave.length ((d 0).2)] a3 rfl ?_
   intro cl a4
   refine W_nil (N_then (G_seq (G_seq ?_)))
   obtain ⟨b3, bo, bm⟩ := gx_bind hm
   refine G_meet (fun a w' => Mem [] w w' [x, [(j, .cells ⟨[iv f.Guest, iv f.Goal, .slice ((d 0).1) f.Gave.length ((d 0).2)]⟩ 50 (0, 0))]] ∧ Sat Try.f47.ntmps [(0, .slice g c.length h), (1, .slice i k.length l), (5, .slice n b.1.length m), (6, iv b.2), (7, pB j 0), (56, .bool b3)] a) ?_ ?_
   ·have hm := bo
    refine G_quiet (by kernel_rfl) (by kernel_rfl) a4 (zR [pB j 0] [(0, .slice g c.length h), (1, .slice i k.length l), (5, .slice n b.1.length m), (6, iv b.2), (7, pB j 0), (23, pB j 0)] (zV (iv f.Guest) (fun w_ M_ => (eL false 1 0 (M_.blk 1 rfl))) ?_))
    obtain ⟨D, bs, hm⟩ := gx_bind hm
    refine Z_call 57 #[iv f.Guest, iv 1, iv 4] (.bool D) (by kernel_rfl) (fun w_ => by kernel_rfl) (fun w_ M_ => (c_s_l1In w_ f.Guest 1 4 bs).mono fun e w2_ h_ => ⟨h_.1, M_.call0 h_.2⟩) (zR [.bool (!D), .bool (!D)] [(0, .slice g c.length h), (1, .slice i k.length l), (5, .slice n b.1.length m), (6, iv b.2), (7, pB j 0), (27, .bool (!D))] ?_)
    rcases gx_bif hm with ⟨O, hm⟩ | ⟨O, hm⟩
    ·refine zK 27 true O (zR [undef, undef, undef, undef, .bool true, .bool true, undef, undef, undef, undef, undef, undef, undef, undef, undef, undef, undef, undef, undef, .bool true, .bool true, undef, undef, undef, undef, undef, undef, undef, .bool true] [(0, .slice g c.length h), (1, .slice i k.length l), (5, .slice n b.1.length m), (6, iv b.2), (7, pB j 0), (56, .bool true)] (Z_end fun cm a5 => ?_))
     obtain rfl := Option.some.inj hm
     exact N_meet fun a ha => ⟨a5.pk [0, 1], ha.s⟩
    refine zK 27 false O (zR [pB j 1] [(0, .slice g c.length h), (1, .slice i k.length l), (5, .slice n b.1.length m), (6, iv b.2), (7, pB j 0), (27, .bool false), (28, pB j 1)] (zV (iv f.Goal) (fun w_ M_ => (eL false 1 1 (M_.blk 1 rfl))) ?_))
    obtain ⟨A, bt, hm⟩ := gx_bind hm
    refine Z_call 57 #[iv f.Goal, iv 0, iv 16] (.bool A) (by kernel_rfl) (fun w_ => by kernel_rfl) (fun w_ M_ => (c_s_l1In w_ f.Goal 0 16 bt).mono fun e w2_ h_ => ⟨h_.1, M_.call0 h_.2⟩) (zR [.bool (!A), .bool (!A), .bool (!A)] [(0, .slice g c.length h), (1, .slice i k.length l), (5, .slice n b.1.length m), (6, iv b.2), (7, pB j 0), (33, .bool (!A))] ?_)
    rcases gx_bif hm with ⟨P, hm⟩ | ⟨P, hm⟩
    ·refine zK 33 true P (zR [undef, undef, undef, undef, undef, undef, undef, undef, undef, undef, undef, undef, undef, .bool true, .bool true, undef, undef, undef, undef, undef, undef, undef, .bool true] [(0, .slice g c.length h), (1, .slice i k.length l), (5, .slice n b.1.length m), (6, iv b.2), (7, pB j 0), (56, .bool true)] (Z_end fun cn a6 => ?_))
     obtain rfl := Option.some.inj hm
     exact N_meet fun a ha => ⟨a6.pk [0, 1], ha.s⟩
    refine zK 33 false P (zR [iv b.2, .bool (decide (b.2 > 0)), .bool (decide (b.2 > 0))] [(0, .slice g c.length h), (1, .slice i k.length l), (5, .slice n b.1.length m), (6, iv b.2), (7, pB j 0), (33, .bool false), (36, .bool (decide (b.2 > 0)))] ?_)
    rcases gx_bif hm with ⟨Q, hm⟩ | ⟨Q, hm⟩
    ·refine zK 36 true Q (zR [.slice i k.length l, iv b.2, iv (w64 (b.2 - 1))] [(0, .slice g c.length h), (1, .slice i k.length l), (5, .slice n b.1.length m), (6, iv b.2), (7, pB j 0), (33, .bool false), (36, .bool true), (37, .slice i k.length l), (39, iv (w64 (b.2 - 1)))] ?_)
     obtain ⟨y, b2, hm⟩ := gx_bind hm
     obtain ⟨cj, X⟩ := gxIdx_fst C b2
     refine zV (elemP i ((w64 (b.2 - 1)).toNat * 3)) (fun w_ M_ => (eI (z.mem0 M_) (len_fst C) X)) (zV (elemP i ((w64 (b.2 - 1)).toNat * 3 + 0)) (fun w_ M_ => (eF 0 ((w64 (b.2 - 1)).toNat * 3) 0 (z.mem0 M_) X)) (zV (iv y.Guest) (fun w_ M_ => (eE false 1 0 ((w64 (b.2 - 1)).toNat * 3 + 0) (z.mem0 M_) X)) (zR [pB j 0] [(0, .slice g c.length h), (1, .slice i k.length l), (5, .slice n b.1.length m), (6, iv b.2), (7, pB j 0), (33, .bool false), (36, .bool true), (42, iv y.Guest), (43, pB j 0)] (zV (iv f.Guest) (fun w_ M_ => (eL false 1 0 (M_.blk 1 rfl))) (zR [.bool (decide (y.Guest ≥ f.Guest)), .bool (decide (y.Guest ≥ f.Guest)), .bool (decide (y.Guest ≥ f.Guest)), .bool (decide (y.Guest ≥ f.Guest))] [(0, .slice g c.length h), (1, .slice i k.length l), (5, .slice n b.1.length m), (6, iv b.2), (7, pB j 0), (48, .bool (decide (y.Guest ≥ f.Guest)))] ?_)))))
     rcases gx_bif hm with ⟨R, hm⟩ | ⟨R, hm⟩
     ·refine zK 48 true R (zR [undef, undef, undef, undef, undef, undef, undef, .bool true] [(0, .slice g c.length h), (1, .slice i k.length l), (5, .slice n b.1.length m), (6, iv b.2), (7, pB j 0), (56, .bool true)] (Z_end fun co a7 => ?_))
      obtain rfl := Option.some.inj hm
      exact N_meet fun a ha => ⟨a7.pk [0, 1], ha.s⟩
     refine zK 48 false R (zR [pB j 2] [(0, .slice g c.length h), (1, .slice i k.length l), (5, .slice n b.1.length m), (6, iv b.2), (7, pB j 0), (48, .bool false), (49, pB j 2)] (zV (.slice ((d 0).1) f.Gave.length ((d 0).2)) (fun w_ M_ => (eL false 1 2 (M_.blk 1 rfl))) (zR [.slice g c.length h, iv (c.length : Int), iv (w64 ((c.length : Int) - 1))] [(0, .slice g c.length h), (1, .slice i k.length l), (5, .slice n b.1.length m), (6, iv b.2), (7, pB j 0), (48, .bool false), (50, .slice ((d 0).1) f.Gave.length ((d 0).2)), (53, iv (w64 ((c.length : Int) - 1)))] ?_)))
     obtain ⟨F, bu, hm⟩ := gx_bind hm
     refine Z_call 80 #[.slice ((d 0).1) f.Gave.length ((d 0).2), iv 0, iv (w64 ((c.length : Int) - 1))] (.bool F) (by kernel_rfl) (fun w_ => by kernel_rfl) (fun w_ M_ => (c_s_l1Rising w_ f.Gave ((d 0).1) ((d 0).2) ((v.mem0 M_).at_ u 0 ⟨Int, Gx.encI, f.Gave, (d 0).1, (d 0).2⟩ (by kernel_rfl)) 0 (w64 ((c.length : Int) - 1)) bu).mono fun e w2_ h_ => ⟨h_.1, M_.call0 h_.2⟩) (zR [.bool (!F), .bool (!F)] [(0, .slice g c.length h), (1, .slice i k.length l), (5, .slice n b.1.length m), (6, iv b.2), (7, pB j 0), (56, .bool (!F))] (Z_end fun cp a8 => ?_))
     obtain rfl := Option.some.inj hm
     exact N_meet fun a ha => ⟨a8.pk [0, 1], ha.s⟩
    refine zK 36 false Q (zR [undef, undef, undef, undef, undef, undef, undef, undef, undef, .bool false, .bool false, .bool false, pB j 2] [(0, .slice g c.length h), (1, .slice i k.length l), (5, .slice n b.1.length m), (6, iv b.2), (7, pB j 0), (48, .bool false), (49, pB j 2)] (zV (.slice ((d 0).1) f.Gave.length ((d 0).2)) (fun w_ M_ => (eL false 1 2 (M_.blk 1 rfl))) (zR [.slice g c.length h, iv (c.length : Int), iv (w64 ((c.length : Int) - 1))] [(0, .slice g c.length h), (1, .slice i k.length l), (5, .slice n b.1.length m), (6, iv b.2), (7, pB j 0), (48, .bool false), (50, .slice ((d 0).1) f.Gave.length ((d 0).2)), (53, iv (w64 ((c.length : Int) - 1)))] ?_)))
    obtain ⟨G, bv, hm⟩ := gx_bind hm
    refine Z_call 80 #[.slice ((d 0).1) f.Gave.length ((d 0).2), iv 0, iv (w64 ((c.length : Int) - 1))] (.bool G) (by kernel_rfl) (fun w_ => by kernel_rfl) (fun w_ M_ => (c_s_l1Rising w_ f.Gave ((d 0).1) ((d 0).2) ((v.mem0 M_).at_ u 0 ⟨Int, Gx.encI, f.Gave, (d 0).1, (d 0).2⟩ (by kernel_rfl)) 0 (w64 ((c.length : Int) - 1)) bv).mono fun e w2_ h_ => ⟨h_.1, M_.call0 h_.2⟩) (zR [.bool (!G), .bool (!G)] [(0, .slice g c.length h), (1, .slice i k.length l), (5, .slice n b.1.length m), (6, iv b.2), (7, pB j 0), (56, .bool (!G))] (Z_end fun cq a9 => ?_))
    obtain rfl := Option.some.inj hm
    exact N_meet fun a ha => ⟨a9.pk [0, 1], ha.s⟩
   intro ce aq ⟨ae, bg⟩
   refine N_use bg ?_
   have hm := bm
   refine N_then ?_
   rcases gx_bif hm with ⟨S, hm⟩ | ⟨S, hm⟩
   ·refine gT S (G_seq (G_region (wR 1 [(4, .bool false)] aq (W_nil (N_then (G_ret (N_then_ret (N_block_ret (N_then_ret (N_then_ret ?_))))))))))
    obtain rfl := Option.some.inj hm
    obtain rfl := Z _ rfl
    have hm := Y; simp only [Sum.elim_inr] at hm
    refine N_block_ret (N_meet_ret (N_then_ret ?_))
    obtain rfl := Option.some.inj hm
    exact N_ret [.bool false] (rC RVs_nil) (⟨rfl, ae.pk []⟩)
   refine gF S (G_skip (N_then (G_seq (G_seq (G_region (wR 1 [(0, .slice g c.length h), (1, .slice i k.length l), (5, .slice n b.1.length m), (6, iv b.2), (7, pB j 0), (8, iv 0)] aq (W_nil (N_then ?_))))))))
   obtain ⟨b6, b0, ai⟩ := gx_bind hm
   refine G_meet (fun a w' => ∃ (ap : Unit), b6 = .inl ap ∧ Mem [] w w' [x, [(j, .cells ⟨[iv f.Guest, iv f.Goal, .slice ((d 0).1) f.Gave.length ((d 0).2)]⟩ 50 (0, 0))]] ∧ Sat Try.f47.ntmps [(0, .slice g c.length h), (1, .slice i k.length l), (5, .slice n b.1.length m), (6, iv b.2), (7, pB j 0)] a) ?_ ?_
   ·refine G_block (G_while (σ := Int) (ρ := (Unit) ⊕ (Bool)) (fun o a w' => Mem [] w w' [x, [(j, .cells ⟨[iv f.Guest, iv f.Goal, .slice ((d 0).1) f.Gave.length ((d 0).2)]⟩ 50 (0, 0))]] ∧ Sat Try.f47.ntmps [(0, .slice g c.length h), (1, .slice i k.length l), (5, .slice n b.1.length m), (6, iv b.2), (7, pB j 0), (8, iv o)] a) b0 (fun a ha => ⟨ae.pk [0, 1], ha.s⟩) ?_)
    clear hm
    intro o cs hm ak cf q ⟨t, bh⟩
    refine G_use bh (G_seq (G_seq (G_region (wR 2 [(0, .slice g c.length h), (1, .slice i k.length l), (5, .slice n b.1.length m), (6, iv b.2), (7, pB j 0), (8, iv o), (57, iv o), (58, pB j 2)] q (wV (.slice ((d 0).1) f.Gave.length ((d 0).2)) q (eL false 1 2 (t.blk 1 rfl)) (wR 2 [(0, .slice g c.length h), (1, .slice i k.length l), (5, .slice n b.1.length m), (6, iv b.2), (7, pB j 0), (8, iv o), (61, .bool (decide (o < (f.Gave.length : Int))))] q (W_nil (N_then ?_))))))))
    rcases gx_bif hm with ⟨T, hm⟩ | ⟨T, hm⟩
    ·refine gT T (G_skip (N_then (G_seq (G_block (G_seq ?_)))))
     obtain ⟨b4, bp, bn⟩ := gx_bind hm
     refine G_meet (fun a w' => Mem [] w w' [x, [(j, .cells ⟨[iv f.Guest, iv f.Goal, .slice ((d 0).1) f.Gave.length ((d 0).2)]⟩ 50 (0, 0))]] ∧ Sat Try.f47.ntmps [(0, .slice g c.length h), (1, .slice i k.length l), (5, .slice n b.1.length m), (6, iv b.2), (7, pB j 0), (8, iv o), (81, .bool b4)] a) ?_ ?_
     ·have hm := bp
      refine G_region (wR 2 [(0, .slice g c.length h), (1, .slice i k.length l), (5, .slice n b.1.length m), (6, iv b.2), (7, pB j 0), (8, iv o), (64, .slice g c.length h), (65, pB j 2)] q (wV (.slice ((d 0).1) f.Gave.length ((d 0).2)) q (eL false 1 2 (t.blk 1 rfl)) (wR 1 [(0, .slice g c.length h), (1, .slice i k.length l), (5, .slice n b.1.length m), (6, iv b.2), (7, pB j 0), (8, iv o), (64, .slice g c.length h), (66, .slice ((d 0).1) f.Gave.length ((d 0).2)), (67, iv o)] q ?_)))
      obtain ⟨ac, al, hm⟩ := gx_bind hm
      refine wV (elemP ((d 0).1) (o.toNat * 1)) q (eI ((v.mem0 t).at_ u 0 ⟨Int, Gx.encI, f.Gave, (d 0).1, (d 0).2⟩ (by kernel_rfl)) rfl al) (wV (iv ac) q (eE false 1 0 (o.toNat * 1) ((v.mem0 t).at_ u 0 ⟨Int, Gx.encI, f.Gave, (d 0).1, (d 0).2⟩ (by kernel_rfl)) al) ?_)
      obtain ⟨ay, am, hm⟩ := gx_bind hm
      refine wV (elemP g (ac.toNat * 1)) q (eI (L.mem0 t) rfl am) (wV (iv ay) q (eE false 1 0 (ac.toNat * 1) (L.mem0 t) am) (wR 2 [(0, .slice g c.length h), (1, .slice i k.length l), (5, .slice n b.1.length m), (6, iv b.2), (7, pB j 0), (8, iv o), (73, .bool (ay != 0))] q ?_))
      rcases gx_bif hm with ⟨U, hm⟩ | ⟨U, hm⟩
      ·refine wK 73 true U (wR 8 [(0, .slice g c.length h), (1, .slice i k.length l), (5, .slice n b.1.length m), (6, iv b.2), (7, pB j 0), (8, iv o), (81, .bool true)] q (W_nil ?_))
       obtain rfl := Option.some.inj hm
       exact N_meet fun a ha => ⟨t.pk [0, 1], ha.s⟩
      refine wK 73 false U (wR 2 [(0, .slice g c.length h), (1, .slice i k.length l), (5, .slice n b.1.length m), (6, iv b.2), (7, pB j 0), (8, iv o), (73, .bool false), (74, .slice n b.1.length m), (75, pB j 2)] q (wV (.slice ((d 0).1) f.Gave.length ((d 0).2)) q (eL false 1 2 (t.blk 1 rfl)) (wR 1 [(0, .slice g c.length h), (1, .slice i k.length l), (5, .slice n b.1.length m), (6, iv b.2), (7, pB j 0), (8, iv o), (73, .bool false), (74, .slice n b.1.length m), (76, .slice ((d 0).1) f.Gave.length ((d 0).2)), (77, iv o)] q ?_)))
      obtain ⟨ad, an, hm⟩ := gx_bind hm
      refine wV (elemP ((d 0).1) (o.toNat * 1)) q (eI ((v.mem0 t).at_ u 0 ⟨Int, Gx.encI, f.Gave, (d 0).1, (d 0).2⟩ (by kernel_rfl)) rfl an) (wV (iv ad) q (eE false 1 0 (o.toNat * 1) ((v.mem0 t).at_ u 0 ⟨Int, Gx.encI, f.Gave, (d 0).1, (d 0).2⟩ (by kernel_rfl)) an) ?_)
      obtain ⟨b7, bw, hm⟩ := gx_bind hm
      refine wC 81 #[.slice n b.1.length m, iv ad] ((c_s_l1Has q b.1 n m (aj.rd t 0 (by kernel_rfl)) ad bw).mono ?_)
      rintro e_ cb ⟨rfl, az⟩
      have ba := t.call0 az
      refine ⟨_, rfl, ?_⟩
      refine wR 1 [(0, .slice g c.length h), (1, .slice i k.length l), (5, .slice n b.1.length m), (6, iv b.2), (7, pB j 0), (8, iv o), (81, .bool b7)] cb (W_nil ?_)
      obtain rfl := Option.some.inj hm
      exact N_meet fun a ha => ⟨ba.pk [0, 1], ha.s⟩
     intro cg ar ⟨af, bi⟩
     refine N_use bi ?_
     have hm := bn
     refine N_then ?_
     rcases gx_bif hm with ⟨V, hm⟩ | ⟨V, hm⟩
     ·refine gT V (G_seq (G_region (wR 1 [(4, .bool false)] ar (W_nil (N_then (G_ret (N_block_ret (N_then_ret (N_then_ret ?_)))))))))
      obtain rfl := Option.some.inj hm
      obtain rfl := ak _ rfl
      have hm := ai; simp only [Sum.elim_inr] at hm
      refine N_block_ret (N_meet_ret (N_then_ret (N_block_ret (N_then_ret (N_then_ret ?_)))))
      obtain rfl := Option.some.inj hm
      obtain rfl := Z _ rfl
      have hm := Y; simp only [Sum.elim_inr] at hm
      refine N_block_ret (N_meet_ret (N_then_ret ?_))
      obtain rfl := Option.some.inj hm
      exact N_ret [.bool false] (rC RVs_nil) (⟨rfl, af.pk []⟩)
     refine gF V (G_skip (N_block (N_then (G_region (wR 3 [(0, .slice g c.length h), (1, .slice i k.length l), (5, .slice n b.1.length m), (6, iv b.2), (7, pB j 0), (8, iv (w64 (o + 1)))] ar (W_nil ?_))))))
     obtain rfl := Option.some.inj hm
     exact N_loop fun a ha => ⟨_, rfl, af.pk [0, 1], ha.s⟩
    refine gF T (G_exit (N_then_exit (N_then_exit (N_block_eq ?_))))
    obtain rfl := Option.some.inj hm
    obtain rfl := ak _ rfl
    exact N_meet fun a ha => ⟨_, rfl, t.pk [0, 1], ha.s⟩
   intro ch au ⟨ap, hout_, I, bj⟩
   refine N_use bj ?_
   subst hout_
   have hm := ai; simp only [Sum.elim_inl] at hm
   refine N_then (G_region (wR 2 [(0, .slice g c.length h), (1, .slice i k.length l), (5, .slice n b.1.length m), (6, iv b.2), (82, .slice n b.1.length m), (83, pB j 2)] au (wV (.slice ((d 0).1) f.Gave.length ((d 0).2)) au (eL false 1 2 (I.blk 1 rfl)) ?_)))
   obtain ⟨ah, bl, hm⟩ := gx_bind hm
   refine wA 8 [iv 0] 0 I aj ((v.mem0 I).at_ u 0 ⟨Int, Gx.encI, f.Gave, (d 0).1, (d 0).2⟩ (by kernel_rfl)) bl ?_
   intro aa J b9 av bq bb
   refine wR 1 [(0, .slice g c.length h), (1, .slice i k.length l), (5, .slice aa ah.length J), (6, iv b.2)] av (W_nil (N_block (N_then (G_region (wR 3 [(0, .slice g c.length h), (1, .slice i k.length l), (5, .slice aa ah.length J), (6, iv (w64 (b.2 + 1)))] av (W_nil ?_))))))
   obtain rfl := Option.some.inj hm
   exact N_loop fun a ha => ⟨_, rfl, aa, J, b9, bq, bb.pk [0], ha.s⟩
  refine gF N (G_exit (N_then_exit (N_then_exit (N_block_eq ?_))))
  obtain rfl := Option.some.inj hm
  obtain rfl := Z _ rfl
  exact N_meet fun a ha => ⟨_, rfl, B.pk [], ha.s⟩
 intro ci cc ⟨ao, hout_, bc, bk⟩
 refine N_use bk ?_
 subst hout_
 have hm := Y; simp only [Sum.elim_inl] at hm
 refine N_then (G_seq (G_region (wR 1 [(4, .bool true)] cc (W_nil (N_then (G_ret ?_))))))
 obtain rfl := Option.some.inj hm
 exact N_ret [.bool true] (rC RVs_nil) (⟨rfl, bc.pk []⟩)
theorem c_s_AreBalloons (w : World) (a : List Int) (f : Option Addr) (c : Nat) (k : rdS Gx.encI w a f c) (b : List Balloon) (g : Option Addr) (d : Nat) (l : rdD deepBalloon w b g d) {r : Bool} (hm : M.s_AreBalloons a b = some r) :
  Calls Try.prog 14 #[.slice f a.length c, .slice g b.length d] w fun e w' => e = .returned (.bool r) ∧ Mem [] w w' [] := by
 unfold M.s_AreBalloons at hm
 refine cE Try.func14 ?_
 have M0 := Mem.refl [] w
 refine G_seq (G_region (wR 1 [(0, .slice f a.length c), (1, .slice g b.length d)] w (W_nil (N_then (G_seq (G_region (wR 2 [(5, .slice f a.length c), (6, .slice g b.length d)] w ?_)))))))
 obtain ⟨h, m, hm⟩ := gx_bind hm
 refine wC 47 #[.slice f a.length c, .slice g b.length d] ((c_s_l18Good w a f c (k.mem0 M0) b g d (l.mem0 M0) m).mono ?_)
 rintro e_ n ⟨rfl, i⟩
 have j := M0.call0 i
 refine ⟨_, rfl, ?_⟩
 refine wR 1 [(4, .bool h)] n (W_nil (N_then (G_ret ?_)))
 obtain rfl := Option.some.inj hm
 exact N_ret [.bool h] (rC RVs_nil) (⟨rfl, j.pk []⟩)
theorem c_i_inside (w : World) (b : Int) (d : Int) (c : Int) {r : Bool} (hm : M.i_inside b d c = some r) :
  Calls Try.prog 82 #[iv b, iv d, iv c] w fun e w' => e = .returned (.bool r) ∧ Mem [] w w' [] := by
 unfold M.i_inside at hm
 refine cE Try.func82 ?_
 have M0 := Mem.refl [] w
 refine G_seq (G_region (wR 1 [(0, iv b), (1, iv d), (2, iv c)] w (W_nil (N_then (G_seq ?_)))))
 obtain ⟨g, k, j⟩ := gx_bind hm
 refine G_meet (fun a w' => Mem [] w w' [] ∧ Sat Try.f82.ntmps [(6, .bool g)] a) ?_ ?_
 ·have hm := k
  refine G_region (wR 4 [(0, iv b), (2, iv c), (10, .bool (decide (b ≥ d)))] w ?_)
  rcases gx_bif hm with ⟨f, hm⟩ | ⟨f, hm⟩
  ·refine wK 10 true f (wR 5 [(6, .bool (decide (b ≤ c)))] w (W_nil ?_))
   obtain rfl := Option.some.inj hm
   exact N_meet fun a ha => ⟨M0.pk [], ha.s⟩
  refine wK 10 false f (wR 5 [(6, .bool false)] w (W_nil ?_))
  obtain rfl := Option.some.inj hm
  exact N_meet fun a ha => ⟨M0.pk [], ha.s⟩
 intro l m ⟨h, i⟩
 refine N_use i ?_
 have hm := j
 refine N_then (G_ret ?_)
 obtain rfl := Option.some.inj hm
 exact N_ret [.bool g] (rC RVs_nil) (⟨rfl, h.pk []⟩)
theorem c_i_AreOwners_1 (w : World) (a : Int) {r : Bool} (hm : M.i_AreOwners_1 a = some r) :
  Calls Try.prog 84 #[iv a] w fun e w' => e = .returned (.bool r) ∧ Mem [] w w' [] := by
 unfold M.i_AreOwners_1 at hm
 refine cE Try.func84 ?_
 have M0 := Mem.refl [] w
 refine G_seq (G_region (wR 1 [(0, iv a)] w (W_nil (N_then (G_seq (G_region (wR 1 [(3, iv a)] w ?_)))))))
 obtain ⟨b, f, hm⟩ := gx_bind hm
 refine wC 82 #[iv a, iv 0, iv 4] ((c_i_inside w a 0 4 f).mono ?_)
 rintro e_ g ⟨rfl, c⟩
 have d := M0.call0 c
 refine ⟨_, rfl, ?_⟩
 refine wR 2 [(2, .bool (!b))] g (W_nil (N_then (G_ret ?_)))
 obtain rfl := Option.some.inj hm
 exact N_ret [.bool (!b)] (rC RVs_nil) (⟨rfl, d.pk []⟩)
theorem c_slices_IndexFunc_91__i_AreOwners_1 (w : World) (b : List Int) (d : Option Addr) (f : Nat) (m : rdS Gx.encI w b d f) {r : Int} (hm : M.slices_IndexFunc_91__i_AreOwners_1 b = some r) :
  Calls Try.prog 91 #[.slice d b.length f, .func (.func 84) #[] #[]] w fun e w' => e = .returned (iv r) ∧ Mem [] w w' [] := by
 unfold M.slices_IndexFunc_91__i_AreOwners_1 at hm
 refine cE Try.func91 ?_
 have M0 := Mem.refl [] w
 refine G_seq (G_region (wR 1 [(0, .slice d b.length f), (1, .func (.func 84) #[] #[])] w (W_nil (N_then (G_seq (G_seq (G_region (wR 3 [(0, .slice d b.length f), (1, .func (.func 84) #[] #[]), (7, iv (b.length : Int)), (8, iv 0)] w (W_nil (N_then ?_))))))))))
 obtain ⟨C, B, n⟩ := gx_bind hm
 refine G_meet (fun a w' => ∃ (t : Unit), C = .inl t ∧ Mem [] w w' [] ∧ Sat Try.f91.ntmps [] a) ?_ ?_
 ·refine G_block (G_while (σ := Int) (ρ := (Unit) ⊕ (Int)) (fun c a w' => Mem [] w w' [] ∧ Sat Try.f91.ntmps [(0, .slice d b.length f), (1, .func (.func 84) #[] #[]), (7, iv (b.length : Int)), (8, iv c)] a) B (fun a ha => ⟨M0.pk [], ha.s⟩) ?_)
  clear hm
  intro c H hm o E g ⟨h, y⟩
  refine G_use y (G_seq (G_region (wR 1 [(0, .slice d b.length f), (1, .func (.func 84) #[] #[]), (7, iv (b.length : Int)), (8, iv c), (9, .bool (decide (c < (b.length : Int))))] g (W_nil (N_then (G_seq ?_))))))
  rcases gx_bif hm with ⟨i, hm⟩ | ⟨i, hm⟩
  ·refine gT i (G_skip (N_then (G_seq (G_block (G_seq (G_region (wR 2 [(0, .slice d b.length f), (1, .func (.func 84) #[] #[]), (5, iv c), (7, iv (b.length : Int)), (8, iv c)] g (W_nil (N_then (G_seq (G_region (wR 3 [(0, .slice d b.length f), (1, .func (.func 84) #[] #[]), (5, iv c), (7, iv (b.length : Int)), (8, iv c), (11, .func (.func 84) #[] #[]), (12, .slice d b.length f), (13, iv c)] g ?_))))))))))))
   obtain ⟨k, q, hm⟩ := gx_bind hm
   refine wV (elemP d (c.toNat * 1)) g (eI (m.mem0 h) rfl q) (wV (iv k) g (eE false 1 0 (c.toNat * 1) (m.mem0 h) q) ?_)
   obtain ⟨G, A, hm⟩ := gx_bind hm
   refine wC 84 #[iv k] ((c_i_AreOwners_1 g k A).mono ?_)
   rintro e_ u ⟨rfl, v⟩
   have l := h.call0 v
   refine ⟨_, rfl, ?_⟩
   refine W_nil (N_then ?_)
   rcases gx_bif hm with ⟨j, hm⟩ | ⟨j, hm⟩
   ·refine gT j (G_seq (G_region (wR 2 [(4, iv c)] u (W_nil (N_then (G_ret (N_block_ret (N_then_ret (N_then_ret ?_)))))))))
    obtain rfl := Option.some.inj hm
    obtain rfl := o _ rfl
    have hm := n; simp only [Sum.elim_inr] at hm
    refine N_block_ret (N_meet_ret (N_then_ret ?_))
    obtain rfl := Option.some.inj hm
    exact N_ret [iv c] (rC RVs_nil) (⟨rfl, l.pk []⟩)
   refine gF j (G_skip (N_block (N_then (G_region (wR 2 [(0, .slice d b.length f), (1, .func (.func 84) #[] #[]), (7, iv (b.length : Int)), (8, iv (w64 (c + 1)))] u (W_nil ?_))))))
   obtain rfl := Option.some.inj hm
   exact N_loop fun a ha => ⟨_, rfl, l.pk [], ha.s⟩
  refine gF i (G_exit (N_then_exit (N_then_exit (N_block_eq ?_))))
  obtain rfl := Option.some.inj hm
  obtain rfl := o _ rfl
  exact N_meet fun a ha => ⟨_, rfl, h.pk [], ha.s⟩
 intro F D ⟨t, hout_, x, z⟩
 refine N_use z ?_
 subst hout_
 have hm := n; simp only [Sum.elim_inl] at hm
 refine N_then (G_seq (G_region (wR 1 [(4, iv (-1))] D (W_nil (N_then (G_ret ?_))))))
 obtain rfl := Option.some.inj hm
 exact N_ret [iv (-1)] (rC RVs_nil) (⟨rfl, x.pk []⟩)
theorem c_slices_ContainsFunc_83__i_AreOwners_1 (w : World) (a : List Int) (c : Option Addr) (b : Nat) (h : rdS Gx.encI w a c b) {r : Bool} (hm : M.slices_ContainsFunc_83__i_AreOwners_1 a = some r) :
  Calls Try.prog 83 #[.slice c a.length b, .func (.func 84) #[] #[]] w fun e w' => e = .returned (.bool r) ∧ Mem [] w w' [] := by
 unfold M.slices_ContainsFunc_83__i_AreOwners_1 at hm
 refine cE Try.func83 ?_
 have M0 := Mem.refl [] w
 refine G_seq (G_region (wR 1 [(0, .slice c a.length b), (1, .func (.func 84) #[] #[])] w (W_nil (N_then (G_seq (G_region (wR 2 [(5, .slice c a.length b), (6, .func (.func 84) #[] #[])] w ?_)))))))
 obtain ⟨d, i, hm⟩ := gx_bind hm
 refine wC 91 #[.slice c a.length b, .func (.func 84) #[] #[]] ((c_slices_IndexFunc_91__i_AreOwners_1 w a c b (h.mem0 M0) i).mono ?_)
 rintro e_ j ⟨rfl, f⟩
 have g := M0.call0 f
 refine ⟨_, rfl, ?_⟩
 refine wR 2 [(4, .bool (decide (d ≥ 0)))] j (W_nil (N_then (G_ret ?_)))
 obtain rfl := Option.some.inj hm
 exact N_ret [.bool (decide (d ≥ 0))] (rC RVs_nil) (⟨rfl, g.pk []⟩)
theorem c_i_AreOwners (w : World) (b : List Int) (d : Option Addr) (c : Nat) (n : rdS Gx.encI w b d c) {r : Bool} (hm : M.i_AreOwners b = some r) :
  Calls Try.prog 49 #[.slice d b.length c] w fun e w' => e = .returned (.bool r) ∧ Mem [] w w' [] := by
 unfold M.i_AreOwners at hm
 refine cE Try.func49 ?_
 have M0 := Mem.refl [] w
 refine G_seq (G_region (wR 1 [(0, .slice d b.length c)] w (W_nil (N_then (G_seq ?_)))))
 obtain ⟨i, t, q⟩ := gx_bind hm
 refine G_meet (fun a w' => Mem [] w w' [] ∧ Sat Try.f49.ntmps [(2, .bool i)] a) ?_ ?_
 ·have hm := t
  refine G_region (wR 2 [(0, .slice d b.length c), (4, iv (b.length : Int))] w ?_)
  obtain ⟨x, u, hm⟩ := gx_bind hm
  refine wC 82 #[iv (b.length : Int), iv 1, iv 16] ((c_i_inside w (b.length : Int) 1 16 u).mono ?_)
  rintro e_ f ⟨rfl, j⟩
  have g := M0.call0 j
  refine ⟨_, rfl, ?_⟩
  refine wR 1 [(0, .slice d b.length c), (6, .bool x)] f ?_
  rcases gx_bif hm with ⟨h, hm⟩ | ⟨h, hm⟩
  ·refine wK 6 true h (wR 1 [(6, .bool true), (7, .slice d b.length c)] f ?_)
   obtain ⟨y, v, hm⟩ := gx_bind hm
   refine wC 83 #[.slice d b.length c, .func (.func 84) #[] #[]] ((c_slices_ContainsFunc_83__i_AreOwners_1 f b d c (n.mem0 g) v).mono ?_)
   rintro e_ z ⟨rfl, k⟩
   have l := g.call0 k
   refine ⟨_, rfl, ?_⟩
   refine wR 3 [(2, .bool (!y))] z (W_nil ?_)
   obtain rfl := Option.some.inj hm
   exact N_meet fun a ha => ⟨l.pk [], ha.s⟩
  refine wK 6 false h (wR 5 [(2, .bool false)] f (W_nil ?_))
  obtain rfl := Option.some.inj hm
  exact N_meet fun a ha => ⟨g.pk [], ha.s⟩
 intro A B ⟨m, o⟩
 refine N_use o ?_
 have hm := q
 refine N_then (G_ret ?_)
 obtain rfl := Option.some.inj hm
 exact N_ret [.bool i] (rC RVs_nil) (⟨rfl, m.pk []⟩)
theorem c_i_isGuest (w : World) (a : Int) {r : Bool} (hm : M.i_isGuest a = some r) :
  Calls Try.prog 50 #[iv a] w fun e w' => e = .returned (.bool r) ∧ Mem [] w w' [] := by
 unfold M.i_isGuest at hm
 refine cE Try.func50 ?_
 have M0 := Mem.refl [] w
 refine G_seq (G_region (wR 1 [(0, iv a)] w (W_nil (N_then (G_seq (G_region (wR 1 [(3, iv a)] w ?_)))))))
 obtain ⟨b, f, hm⟩ := gx_bind hm
 refine wC 82 #[iv a, iv 1, iv 4] ((c_i_inside w a 1 4 f).mono ?_)
 rintro e_ g ⟨rfl, c⟩
 have d := M0.call0 c
 refine ⟨_, rfl, ?_⟩
 refine wR 1 [(2, .bool b)] g (W_nil (N_then (G_ret ?_)))
 obtain rfl := Option.some.inj hm
 exact N_ret [.bool b] (rC RVs_nil) (⟨rfl, d.pk []⟩)
theorem c_i_isGoal (w : World) (a : Int) {r : Bool} (hm : M.i_isGoal a = some r) :
  Calls Try.prog 51 #[iv a] w fun e w' => e = .returned (.bool r) ∧ Mem [] w w' [] := by
 unfold M.i_isGoal at hm
 refine cE Try.func51 ?_
 have M0 := Mem.refl [] w
 refine G_seq (G_region (wR 1 [(0, iv a)] w (W_nil (N_then (G_seq (G_region (wR 1 [(3, iv a)] w ?_)))))))
 obtain ⟨b, f, hm⟩ := gx_bind hm
 refine wC 82 #[iv a, iv 0, iv 16] ((c_i_inside w a 0 16 f).mono ?_)
 rintro e_ g ⟨rfl, c⟩
 have d := M0.call0 c
 refine ⟨_, rfl, ?_⟩
 refine wR 1 [(2, .bool b)] g (W_nil (N_then (G_ret ?_)))
 obtain rfl := Option.some.inj hm
 exact N_ret [.bool b] (rC RVs_nil) (⟨rfl, d.pk []⟩)
theorem c_i_ascending (w : World) (b : List Int) (c : Option Addr) (d : Nat) (n : rdS Gx.encI w b c d) (g : Int) (h : Int) {r : Bool} (hm : M.i_ascending b g h = some r) :
  Calls Try.prog 52 #[.slice c b.length d, iv g, iv h] w fun e w' => e = .returned (.bool r) ∧ Mem [] w w' [] := by
 unfold M.i_ascending at hm
 refine cE Try.func52 ?_
 have M0 := Mem.refl [] w
 refine G_seq (G_region (wR 1 [(0, .slice c b.length d), (1, iv g), (2, iv h)] w (W_nil (N_then (G_seq (G_seq (G_region (wR 3 [(0, .slice c b.length d), (1, iv g), (2, iv h), (9, .slice c b.length d), (10, iv (b.length : Int)), (11, iv 0)] w (W_nil (N_then ?_))))))))))
 obtain ⟨P, N, x⟩ := gx_bind hm
 refine G_meet (fun a w' => ∃ (B : Unit), P = .inl B ∧ Mem [] w w' [] ∧ Sat Try.f52.ntmps [] a) ?_ ?_
 ·refine G_block (G_while (σ := Int) (ρ := (Unit) ⊕ (Bool)) (fun f a w' => Mem [] w w' [] ∧ Sat Try.f52.ntmps [(0, .slice c b.length d), (1, iv g), (2, iv h), (9, .slice c b.length d), (10, iv (b.length : Int)), (11, iv f)] a) N (fun a ha => ⟨M0.pk [], ha.s⟩) ?_)
  clear hm
  intro f V hm y S k ⟨m, G⟩
  refine G_use G (G_seq (G_region (wR 1 [(0, .slice c b.length d), (1, iv g), (2, iv h), (9, .slice c b.length d), (10, iv (b.length : Int)), (11, iv f), (12, .bool (decide (f < (b.length : Int))))] k (W_nil (N_then (G_seq ?_))))))
  rcases gx_bif hm with ⟨o, hm⟩ | ⟨o, hm⟩
  ·refine gT o (G_skip (N_then (G_seq (G_block (G_seq (G_region (wR 1 [(0, .slice c b.length d), (1, iv g), (2, iv h), (9, .slice c b.length d), (10, iv (b.length : Int)), (11, iv f), (13, iv f)] k ?_)))))))
   obtain ⟨i, z, hm⟩ := gx_bind hm
   refine wV (elemP c (f.toNat * 1)) k (eI (n.mem0 m) rfl z) (wV (iv i) k (eE false 1 0 (f.toNat * 1) (n.mem0 m) z) (wR 2 [(0, .slice c b.length d), (1, iv g), (2, iv h), (7, iv f), (8, iv i), (9, .slice c b.length d), (10, iv (b.length : Int)), (11, iv f)] k (W_nil (N_then (G_seq ?_)))))
   obtain ⟨O, K, J⟩ := gx_bind hm
   refine G_meet (fun a w' => Mem [] w w' [] ∧ Sat Try.f52.ntmps [(0, .slice c b.length d), (1, iv g), (2, iv h), (9, .slice c b.length d), (10, iv (b.length : Int)), (11, iv f), (33, .bool O)] a) ?_ ?_
   ·have hm := K
    refine G_region (wR 3 [(0, .slice c b.length d), (1, iv g), (2, iv h), (7, iv f), (8, iv i), (9, .slice c b.length d), (10, iv (b.length : Int)), (11, iv f), (16, iv i), (17, iv g), (18, iv h)] k ?_)
    obtain ⟨Q, L, hm⟩ := gx_bind hm
    refine wC 82 #[iv i, iv g, iv h] ((c_i_inside k i g h L).mono ?_)
    rintro e_ j ⟨rfl, E⟩
    have l := m.call0 E
    refine ⟨_, rfl, ?_⟩
    refine wR 2 [(0, .slice c b.length d), (1, iv g), (2, iv h), (7, iv f), (8, iv i), (9, .slice c b.length d), (10, iv (b.length : Int)), (11, iv f), (21, .bool (!Q))] j ?_
    rcases gx_bif hm with ⟨q, hm⟩ | ⟨q, hm⟩
    ·refine wK 21 true q (wR 12 [(0, .slice c b.length d), (1, iv g), (2, iv h), (9, .slice c b.length d), (10, iv (b.length : Int)), (11, iv f), (33, .bool true)] j (W_nil ?_))
     obtain rfl := Option.some.inj hm
     exact N_meet fun a ha => ⟨l.pk [], ha.s⟩
    refine wK 21 false q (wR 3 [(0, .slice c b.length d), (1, iv g), (2, iv h), (7, iv f), (8, iv i), (9, .slice c b.length d), (10, iv (b.length : Int)), (11, iv f), (21, .bool false), (24, .bool (decide (f > 0)))] j ?_)
    rcases gx_bif hm with ⟨t, hm⟩ | ⟨t, hm⟩
    ·refine wK 24 true t (wR 3 [(0, .slice c b.length d), (1, iv g), (2, iv h), (8, iv i), (9, .slice c b.length d), (10, iv (b.length : Int)), (11, iv f), (21, .bool false), (24, .bool true), (25, .slice c b.length d), (27, iv (w64 (f - 1)))] j ?_)
     obtain ⟨D, A, hm⟩ := gx_bind hm
     refine wV (elemP c ((w64 (f - 1)).toNat * 1)) j (eI (n.mem0 l) rfl A) (wV (iv D) j (eE false 1 0 ((w64 (f - 1)).toNat * 1) (n.mem0 l) A) (wR 4 [(0, .slice c b.length d), (1, iv g), (2, iv h), (9, .slice c b.length d), (10, iv (b.length : Int)), (11, iv f), (33, .bool (decide (D ≥ i)))] j (W_nil ?_)))
     obtain rfl := Option.some.inj hm
     exact N_meet fun a ha => ⟨l.pk [], ha.s⟩
    refine wK 24 false t (wR 9 [(0, .slice c b.length d), (1, iv g), (2, iv h), (9, .slice c b.length d), (10, iv (b.length : Int)), (11, iv f), (33, .bool false)] j (W_nil ?_))
    obtain rfl := Option.some.inj hm
    exact N_meet fun a ha => ⟨l.pk [], ha.s⟩
   intro T C ⟨v, H⟩
   refine N_use H ?_
   have hm := J
   refine N_then ?_
   rcases gx_bif hm with ⟨u, hm⟩ | ⟨u, hm⟩
   ·refine gT u (G_seq (G_region (wR 1 [(6, .bool false)] C (W_nil (N_then (G_ret (N_block_ret (N_then_ret (N_then_ret ?_)))))))))
    obtain rfl := Option.some.inj hm
    obtain rfl := y _ rfl
    have hm := x; simp only [Sum.elim_inr] at hm
    refine N_block_ret (N_meet_ret (N_then_ret ?_))
    obtain rfl := Option.some.inj hm
    exact N_ret [.bool false] (rC RVs_nil) (⟨rfl, v.pk []⟩)
   refine gF u (G_skip (N_block (N_then (G_region (wR 2 [(0, .slice c b.length d), (1, iv g), (2, iv h), (9, .slice c b.length d), (10, iv (b.length : Int)), (11, iv (w64 (f + 1)))] C (W_nil ?_))))))
   obtain rfl := Option.some.inj hm
   exact N_loop fun a ha => ⟨_, rfl, v.pk [], ha.s⟩
  refine gF o (G_exit (N_then_exit (N_then_exit (N_block_eq ?_))))
  obtain rfl := Option.some.inj hm
  obtain rfl := y _ rfl
  exact N_meet fun a ha => ⟨_, rfl, m.pk [], ha.s⟩
 intro U R ⟨B, hout_, F, I⟩
 refine N_use I ?_
 subst hout_
 have hm := x; simp only [Sum.elim_inl] at hm
 refine N_then (G_seq (G_region (wR 1 [(6, .bool true)] R (W_nil (N_then (G_ret ?_))))))
 obtain rfl := Option.some.inj hm
 exact N_ret [.bool true] (rC RVs_nil) (⟨rfl, F.pk []⟩)
theorem c_slices_Index_63 (w : World) (b : List Int) (d : Option Addr) (g : Nat) (l : rdS Gx.encI w b d g) (f : Int) {r : Int} (hm : M.slices_Index_63 b f = some r) :
  Calls Try.prog 63 #[.slice d b.length g, iv f] w fun e w' => e = .returned (iv r) ∧ Mem [] w w' [] := by
 unfold M.slices_Index_63 at hm
 refine cE Try.func63 ?_
 have M0 := Mem.refl [] w
 refine G_seq (G_region (wR 1 [(0, .slice d b.length g), (1, iv f)] w (W_nil (N_then (G_seq (G_seq (G_region (wR 3 [(0, .slice d b.length g), (1, iv f), (7, iv (b.length : Int)), (8, iv 0)] w (W_nil (N_then ?_))))))))))
 obtain ⟨z, y, m⟩ := gx_bind hm
 refine G_meet (fun a w' => ∃ (q : Unit), z = .inl q ∧ Mem [] w w' [] ∧ Sat Try.f63.ntmps [] a) ?_ ?_
 ·refine G_block (G_while (σ := Int) (ρ := (Unit) ⊕ (Int)) (fun c a w' => Mem [] w w' [] ∧ Sat Try.f63.ntmps [(0, .slice d b.length g), (1, iv f), (7, iv (b.length : Int)), (8, iv c)] a) y (fun a ha => ⟨M0.pk [], ha.s⟩) ?_)
  clear hm
  intro c D hm n B h ⟨i, v⟩
  refine G_use v (G_seq (G_region (wR 1 [(0, .slice d b.length g), (1, iv f), (7, iv (b.length : Int)), (8, iv c), (9, .bool (decide (c < (b.length : Int))))] h (W_nil (N_then (G_seq ?_))))))
  rcases gx_bif hm with ⟨j, hm⟩ | ⟨j, hm⟩
  ·refine gT j (G_skip (N_then (G_seq (G_block (G_seq (G_region (wR 2 [(0, .slice d b.length g), (1, iv f), (5, iv c), (7, iv (b.length : Int)), (8, iv c)] h (W_nil (N_then (G_seq (G_region (wR 3 [(0, .slice d b.length g), (1, iv f), (5, iv c), (7, iv (b.length : Int)), (8, iv c), (11, iv f), (12, .slice d b.length g), (13, iv c)] h ?_))))))))))))
   obtain ⟨t, o, hm⟩ := gx_bind hm
   refine wV (elemP d (c.toNat * 1)) h (eI (l.mem0 i) rfl o) (wV (iv t) h (eE false 1 0 (c.toNat * 1) (l.mem0 i) o) (wR 1 [(0, .slice d b.length g), (1, iv f), (5, iv c), (7, iv (b.length : Int)), (8, iv c), (16, .bool (f == t))] h (W_nil (N_then ?_))))
   rcases gx_bif hm with ⟨k, hm⟩ | ⟨k, hm⟩
   ·refine gT k (G_seq (G_region (wR 2 [(4, iv c)] h (W_nil (N_then (G_ret (N_block_ret (N_then_ret (N_then_ret ?_)))))))))
    obtain rfl := Option.some.inj hm
    obtain rfl := n _ rfl
    have hm := m; simp only [Sum.elim_inr] at hm
    refine N_block_ret (N_meet_ret (N_then_ret ?_))
    obtain rfl := Option.some.inj hm
    exact N_ret [iv c] (rC RVs_nil) (⟨rfl, i.pk []⟩)
   refine gF k (G_skip (N_block (N_then (G_region (wR 2 [(0, .slice d b.length g), (1, iv f), (7, iv (b.length : Int)), (8, iv (w64 (c + 1)))] h (W_nil ?_))))))
   obtain rfl := Option.some.inj hm
   exact N_loop fun a ha => ⟨_, rfl, i.pk [], ha.s⟩
  refine gF j (G_exit (N_then_exit (N_then_exit (N_block_eq ?_))))
  obtain rfl := Option.some.inj hm
  obtain rfl := n _ rfl
  exact N_meet fun a ha => ⟨_, rfl, i.pk [], ha.s⟩
 intro C A ⟨q, hout_, u, x⟩
 refine N_use x ?_
 subst hout_
 have hm := m; simp only [Sum.elim_inl] at hm
 refine N_then (G_seq (G_region (wR 1 [(4, iv (-1))] A (W_nil (N_then (G_ret ?_))))))
 obtain rfl := Option.some.inj hm
 exact N_ret [iv (-1)] (rC RVs_nil) (⟨rfl, u.pk []⟩)
theorem c_slices_Contains_53 (w : World) (a : List Int) (c : Option Addr) (b : Nat) (i : rdS Gx.encI w a c b) (d : Int) {r : Bool} (hm : M.slices_Contains_53 a d = some r) :
  Calls Try.prog 53 #[.slice c a.length b, iv d] w fun e w' => e = .returned (.bool r) ∧ Mem [] w w' [] := by
 unfold M.slices_Contains_53 at hm
 refine cE Try.func53 ?_
 have M0 := Mem.refl [] w
 refine G_seq (G_region (wR 1 [(0, .slice c a.length b), (1, iv d)] w (W_nil (N_then (G_seq (G_region (wR 2 [(5, .slice c a.length b), (6, iv d)] w ?_)))))))
 obtain ⟨f, j, hm⟩ := gx_bind hm
 refine wC 63 #[.slice c a.length b, iv d] ((c_slices_Index_63 w a c b (i.mem0 M0) d j).mono ?_)
 rintro e_ k ⟨rfl, g⟩
 have h := M0.call0 g
 refine ⟨_, rfl, ?_⟩
 refine wR 2 [(4, .bool (decide (f ≥ 0)))] k (W_nil (N_then (G_ret ?_)))
 obtain rfl := Option.some.inj hm
 exact N_ret [.bool (decide (f ≥ 0))] (rC RVs_nil) (⟨rfl, h.pk []⟩)
theorem c_i_AreBalloons (w : World) (h : List Int) (j : Option Addr) (k : Nat) (T : rdS Gx.encI w h j k) (b : List Balloon) (c : Option Addr) (f : Nat) (bh : rdD deepBalloon w b c f) {r : Bool} (hm : M.i_AreBalloons h b = some r) :
  Calls Try.prog 17 #[.slice j h.length k, .slice c b.length f] w fun e w' => e = .returned (.bool r) ∧ Mem [] w w' [] := by
 unfold M.i_AreBalloons at hm
 refine cE Try.func17 ?_
 have M0 := Mem.refl [] w
 refine G_seq (G_region (wR 1 [(0, .slice j h.length k), (1, .slice c b.length f)] w (W_nil (N_then (G_seq (G_seq (G_region (wR 1 [(0, .slice j h.length k), (1, .slice c b.length f), (10, .slice j h.length k)] w ?_))))))))
 obtain ⟨cc, bz, hm⟩ := gx_bind hm
 refine wC 49 #[.slice j h.length k] ((c_i_AreOwners w h j k (T.mem0 M0) bz).mono ?_)
 rintro e_ aw ⟨rfl, a3⟩
 have al := M0.call0 a3
 refine ⟨_, rfl, ?_⟩
 refine wR 1 [(0, .slice j h.length k), (1, .slice c b.length f), (12, .bool (!cc))] aw (W_nil (N_then ?_))
 rcases gx_bif hm with ⟨U, hm⟩ | ⟨U, hm⟩
 ·refine gT U (G_seq (G_region (wR 1 [(4, .bool false)] aw (W_nil (N_then (G_ret (N_then_ret ?_)))))))
  obtain rfl := Option.some.inj hm
  exact N_ret [.bool false] (rC RVs_nil) (⟨rfl, al.pk []⟩)
 refine gF U (G_skip (N_then (G_seq (G_region (wL (E := Gx.encI) ([] : List Int) 0 [] 3 al ?_)))))
 intro aj R ce ax br a5
 refine wR 1 [(0, .slice j h.length k), (1, .slice c b.length f), (5, .slice aj ([] : List Int).length R)] ax (W_nil (N_then (G_seq (G_seq (G_region (wR 3 [(0, .slice j h.length k), (1, .slice c b.length f), (5, .slice aj ([] : List Int).length R), (14, .slice c b.length f), (15, iv (b.length : Int)), (16, iv 0)] ax (W_nil (N_then ?_))))))))
 obtain ⟨ca, b4, ag⟩ := gx_bind hm
 refine G_meet (fun a w' => ∃ (av : Unit), ca = .inl av ∧ Mem [] w w' [] ∧ Sat Try.f17.ntmps [] a) ?_ ?_
 ·refine G_block (G_while (σ := List Int × Int) (ρ := (Unit) ⊕ (Bool)) (fun d a w' => ∃ (o : Option Addr), ∃ (n : Nat), ∃ (H : Seg), ownS Gx.encI d.1 o n H ∧ Mem [] w w' [H] ∧ Sat Try.f17.ntmps [(0, .slice j h.length k), (1, .slice c b.length f), (5, .slice o d.1.length n), (14, .slice c b.length f), (15, iv (b.length : Int)), (16, iv d.2)] a) b4 (fun a ha => ⟨aj, R, ce, br, a5.pk [0], ha.s⟩) ?_)
  clear hm
  intro d c1 hm ai ck O ⟨o, n, H, bs, J, bi⟩
  refine G_use bi (G_seq (G_region (wR 1 [(0, .slice j h.length k), (1, .slice c b.length f), (5, .slice o d.1.length n), (14, .slice c b.length f), (15, iv (b.length : Int)), (16, iv d.2), (17, .bool (decide (d.2 < (b.length : Int))))] O (W_nil (N_then (G_seq ?_))))))
  rcases gx_bif hm with ⟨V, hm⟩ | ⟨V, hm⟩
  ·refine gT V (G_skip (N_then (G_seq (G_block (G_seq (G_region (wR 1 [(0, .slice j h.length k), (1, .slice c b.length f), (5, .slice o d.1.length n), (14, .slice c b.length f), (15, iv (b.length : Int)), (16, iv d.2), (18, iv d.2)] O ?_)))))))
   obtain ⟨g, b6, hm⟩ := gx_bind hm
   obtain ⟨c3, K, B, af⟩ := id bh
   obtain ⟨i, A⟩ := gxIdx_fst K b6
   refine wV (elemP c (d.2.toNat * 3)) O (eI (B.mem0 J) (len_fst K) A) (wV (.agg #[iv g.Guest, iv g.Goal, .slice ((i 0).1) g.Gave.length ((i 0).2)]) O (eE true 3 0 (d.2.toNat * 3) (B.mem0 J) A) (wN (.cells ⟨[iv 0, iv 0, .slice none 0 0]⟩ 50 (0, 0)) J ?_))
   intro m cg a6
   refine wR 1 [(0, .slice j h.length k), (1, .slice c b.length f), (5, .slice o d.1.length n), (6, iv d.2), (7, pB m 0), (14, .slice c b.length f), (15, iv (b.length : Int)), (16, iv d.2), (20, .agg #[iv g.Guest, iv g.Goal, .slice ((i 0).1) g.Gave.length ((i 0).2)])] cg (wS true 3 0 (.agg #[iv g.Guest, iv g.Goal, .slice ((i 0).1) g.Gave.length ((i 0).2)]) 1 [iv g.Guest, iv g.Goal, .slice ((i 0).1) g.Gave.length ((i 0).2)] a6 rfl ?_)
   intro cu a7
   refine W_nil (N_then (G_seq (G_seq ?_)))
   obtain ⟨b8, bt, bp⟩ := gx_bind hm
   refine G_meet (fun a w' => Mem [] w w' [H, [(m, .cells ⟨[iv g.Guest, iv g.Goal, .slice ((i 0).1) g.Gave.length ((i 0).2)]⟩ 50 (0, 0))]] ∧ Sat Try.f17.ntmps [(0, .slice j h.length k), (1, .slice c b.length f), (5, .slice o d.1.length n), (7, pB m 0), (14, .slice c b.length f), (15, iv (b.length : Int)), (16, iv d.2), (54, .bool b8)] a) ?_ ?_
   ·have hm := bt
    refine G_quiet (by kernel_rfl) (by kernel_rfl) a7 (zR [pB m 0] [(0, .slice j h.length k), (1, .slice c b.length f), (5, .slice o d.1.length n), (6, iv d.2), (7, pB m 0), (14, .slice c b.length f), (15, iv (b.length : Int)), (16, iv d.2), (21, pB m 0)] (zV (iv g.Guest) (fun w_ M_ => (eL false 1 0 (M_.blk 1 rfl))) ?_))
    obtain ⟨L, b0, hm⟩ := gx_bind hm
    refine Z_call 50 #[iv g.Guest] (.bool L) (by kernel_rfl) (fun w_ => by kernel_rfl) (fun w_ M_ => (c_i_isGuest w_ g.Guest b0).mono fun e w2_ h_ => ⟨h_.1, M_.call0 h_.2⟩) (zR [.bool (!L), .bool (!L)] [(0, .slice j h.length k), (1, .slice c b.length f), (5, .slice o d.1.length n), (6, iv d.2), (7, pB m 0), (14, .slice c b.length f), (15, iv (b.length : Int)), (16, iv d.2), (25, .bool (!L))] ?_)
    rcases gx_bif hm with ⟨W, hm⟩ | ⟨W, hm⟩
    ·refine zK 25 true W (zR [undef, undef, undef, undef, .bool true, .bool true, undef, undef, undef, undef, undef, undef, undef, .bool true, .bool true, undef, undef, undef, undef, undef, undef, undef, undef, undef, undef, undef, undef, undef, .bool true] [(0, .slice j h.length k), (1, .slice c b.length f), (5, .slice o d.1.length n), (7, pB m 0), (14, .slice c b.length f), (15, iv (b.length : Int)), (16, iv d.2), (54, .bool true)] (Z_end fun cv a8 => ?_))
     obtain rfl := Option.some.inj hm
     exact N_meet fun a ha => ⟨a8.pk [0, 1], ha.s⟩
    refine zK 25 false W (zR [pB m 1] [(0, .slice j h.length k), (1, .slice c b.length f), (5, .slice o d.1.length n), (6, iv d.2), (7, pB m 0), (14, .slice c b.length f), (15, iv (b.length : Int)), (16, iv d.2), (25, .bool false), (26, pB m 1)] (zV (iv g.Goal) (fun w_ M_ => (eL false 1 1 (M_.blk 1 rfl))) ?_))
    obtain ⟨F, b1, hm⟩ := gx_bind hm
    refine Z_call 51 #[iv g.Goal] (.bool F) (by kernel_rfl) (fun w_ => by kernel_rfl) (fun w_ M_ => (c_i_isGoal w_ g.Goal b1).mono fun e w2_ h_ => ⟨h_.1, M_.call0 h_.2⟩) (zR [.bool (!F), .bool (!F), .bool (!F)] [(0, .slice j h.length k), (1, .slice c b.length f), (5, .slice o d.1.length n), (6, iv d.2), (7, pB m 0), (14, .slice c b.length f), (15, iv (b.length : Int)), (16, iv d.2), (31, .bool (!F))] ?_)
    rcases gx_bif hm with ⟨X, hm⟩ | ⟨X, hm⟩
    ·refine zK 31 true X (zR [undef, undef, undef, undef, undef, undef, undef, .bool true, .bool true, undef, undef, undef, undef, undef, undef, undef, undef, undef, undef, undef, undef, undef, .bool true] [(0, .slice j h.length k), (1, .slice c b.length f), (5, .slice o d.1.length n), (7, pB m 0), (14, .slice c b.length f), (15, iv (b.length : Int)), (16, iv d.2), (54, .bool true)] (Z_end fun cw a9 => ?_))
     obtain rfl := Option.some.inj hm
     exact N_meet fun a ha => ⟨a9.pk [0, 1], ha.s⟩
    refine zK 31 false X (zR [pB m 2] [(0, .slice j h.length k), (1, .slice c b.length f), (5, .slice o d.1.length n), (6, iv d.2), (7, pB m 0), (14, .slice c b.length f), (15, iv (b.length : Int)), (16, iv d.2), (31, .bool false), (32, pB m 2)] (zV (.slice ((i 0).1) g.Gave.length ((i 0).2)) (fun w_ M_ => (eL false 1 2 (M_.blk 1 rfl))) (zR [.slice j h.length k, iv (h.length : Int), iv (w64 ((h.length : Int) - 1))] [(0, .slice j h.length k), (1, .slice c b.length f), (5, .slice o d.1.length n), (6, iv d.2), (7, pB m 0), (14, .slice c b.length f), (15, iv (b.length : Int)), (16, iv d.2), (31, .bool false), (33, .slice ((i 0).1) g.Gave.length ((i 0).2)), (36, iv (w64 ((h.length : Int) - 1)))] ?_)))
    obtain ⟨G, b2, hm⟩ := gx_bind hm
    refine Z_call 52 #[.slice ((i 0).1) g.Gave.length ((i 0).2), iv 0, iv (w64 ((h.length : Int) - 1))] (.bool G) (by kernel_rfl) (fun w_ => by kernel_rfl) (fun w_ M_ => (c_i_ascending w_ g.Gave ((i 0).1) ((i 0).2) ((af.mem0 M_).at_ A 0 ⟨Int, Gx.encI, g.Gave, (i 0).1, (i 0).2⟩ (by kernel_rfl)) 0 (w64 ((h.length : Int) - 1)) b2).mono fun e w2_ h_ => ⟨h_.1, M_.call0 h_.2⟩) (zR [.bool (!G), .bool (!G), .bool (!G)] [(0, .slice j h.length k), (1, .slice c b.length f), (5, .slice o d.1.length n), (6, iv d.2), (7, pB m 0), (14, .slice c b.length f), (15, iv (b.length : Int)), (16, iv d.2), (40, .bool (!G))] ?_)
    rcases gx_bif hm with ⟨Y, hm⟩ | ⟨Y, hm⟩
    ·refine zK 40 true Y (zR [undef, undef, undef, undef, undef, undef, undef, undef, undef, undef, undef, undef, undef, .bool true] [(0, .slice j h.length k), (1, .slice c b.length f), (5, .slice o d.1.length n), (7, pB m 0), (14, .slice c b.length f), (15, iv (b.length : Int)), (16, iv d.2), (54, .bool true)] (Z_end fun cx ba => ?_))
     obtain rfl := Option.some.inj hm
     exact N_meet fun a ha => ⟨ba.pk [0, 1], ha.s⟩
    refine zK 40 false Y (zR [iv d.2, .bool (decide (d.2 > 0)), .bool (decide (d.2 > 0))] [(0, .slice j h.length k), (1, .slice c b.length f), (5, .slice o d.1.length n), (6, iv d.2), (7, pB m 0), (14, .slice c b.length f), (15, iv (b.length : Int)), (16, iv d.2), (40, .bool false), (43, .bool (decide (d.2 > 0)))] ?_)
    rcases gx_bif hm with ⟨Z, hm⟩ | ⟨Z, hm⟩
    ·refine zK 43 true Z (zR [.slice c b.length f, iv d.2, iv (w64 (d.2 - 1))] [(0, .slice j h.length k), (1, .slice c b.length f), (5, .slice o d.1.length n), (7, pB m 0), (14, .slice c b.length f), (15, iv (b.length : Int)), (16, iv d.2), (40, .bool false), (43, .bool true), (44, .slice c b.length f), (46, iv (w64 (d.2 - 1)))] ?_)
     obtain ⟨y, b7, hm⟩ := gx_bind hm
     obtain ⟨cr, ae⟩ := gxIdx_fst K b7
     refine zV (elemP c ((w64 (d.2 - 1)).toNat * 3)) (fun w_ M_ => (eI (B.mem0 M_) (len_fst K) ae)) (zV (elemP c ((w64 (d.2 - 1)).toNat * 3 + 0)) (fun w_ M_ => (eF 0 ((w64 (d.2 - 1)).toNat * 3) 0 (B.mem0 M_) ae)) (zV (iv y.Guest) (fun w_ M_ => (eE false 1 0 ((w64 (d.2 - 1)).toNat * 3 + 0) (B.mem0 M_) ae)) (zR [pB m 0] [(0, .slice j h.length k), (1, .slice c b.length f), (5, .slice o d.1.length n), (7, pB m 0), (14, .slice c b.length f), (15, iv (b.length : Int)), (16, iv d.2), (40, .bool false), (43, .bool true), (49, iv y.Guest), (50, pB m 0)] (zV (iv g.Guest) (fun w_ M_ => (eL false 1 0 (M_.blk 1 rfl))) (zR [.bool (decide (y.Guest ≥ g.Guest)), .bool (decide (y.Guest ≥ g.Guest)), .bool (decide (y.Guest ≥ g.Guest))] [(0, .slice j h.length k), (1, .slice c b.length f), (5, .slice o d.1.length n), (7, pB m 0), (14, .slice c b.length f), (15, iv (b.length : Int)), (16, iv d.2), (54, .bool (decide (y.Guest ≥ g.Guest)))] (Z_end fun cy bb => ?_))))))
     obtain rfl := Option.some.inj hm
     exact N_meet fun a ha => ⟨bb.pk [0, 1], ha.s⟩
    refine zK 43 false Z (zR [undef, undef, undef, undef, undef, undef, undef, undef, undef, .bool false, .bool false] [(0, .slice j h.length k), (1, .slice c b.length f), (5, .slice o d.1.length n), (7, pB m 0), (14, .slice c b.length f), (15, iv (b.length : Int)), (16, iv d.2), (54, .bool false)] (Z_end fun cz bc => ?_))
    obtain rfl := Option.some.inj hm
    exact N_meet fun a ha => ⟨bc.pk [0, 1], ha.s⟩
   intro cl P ⟨Q, bj⟩
   refine N_use bj ?_
   have hm := bp
   refine N_then ?_
   rcases gx_bif hm with ⟨aa, hm⟩ | ⟨aa, hm⟩
   ·refine gT aa (G_seq (G_region (wR 1 [(4, .bool false)] P (W_nil (N_then (G_ret (N_then_ret (N_block_ret (N_then_ret (N_then_ret ?_))))))))))
    obtain rfl := Option.some.inj hm
    obtain rfl := ai _ rfl
    have hm := ag; simp only [Sum.elim_inr] at hm
    refine N_block_ret (N_meet_ret (N_then_ret ?_))
    obtain rfl := Option.some.inj hm
    exact N_ret [.bool false] (rC RVs_nil) (⟨rfl, Q.pk []⟩)
   refine gF aa (G_skip (N_then (G_seq (G_region (wR 1 [(0, .slice j h.length k), (1, .slice c b.length f), (5, .slice o d.1.length n), (14, .slice c b.length f), (15, iv (b.length : Int)), (16, iv d.2), (55, pB m 2)] P (wV (.slice ((i 0).1) g.Gave.length ((i 0).2)) P (eL false 1 2 (Q.blk 1 rfl)) (wR 2 [(0, .slice j h.length k), (1, .slice c b.length f), (5, .slice o d.1.length n), (14, .slice c b.length f), (15, iv (b.length : Int)), (16, iv d.2), (56, .slice ((i 0).1) g.Gave.length ((i 0).2)), (57, iv (g.Gave.length : Int)), (58, iv 0)] P (W_nil (N_then ?_)))))))))
   obtain ⟨cb, b5, ap⟩ := gx_bind hm
   refine G_meet (fun a w' => ∃ (C : List Int), ∃ (D : Option Addr), ∃ (z : Nat), ∃ (N : Seg), ownS Gx.encI C D z N ∧ cb = .inl C ∧ Mem [] w w' [N] ∧ Sat Try.f17.ntmps [(0, .slice j h.length k), (1, .slice c b.length f), (5, .slice D C.length z), (14, .slice c b.length f), (15, iv (b.length : Int)), (16, iv d.2)] a) ?_ ?_
   ·refine G_block (G_while (σ := List Int × Int) (ρ := (List Int) ⊕ (Bool)) (fun l a w' => ∃ (t : Option Addr), ∃ (q : Nat), ∃ (I : Seg), ownS Gx.encI l.1 t q I ∧ Mem [] w w' [I] ∧ Sat Try.f17.ntmps [(0, .slice j h.length k), (1, .slice c b.length f), (5, .slice t l.1.length q), (14, .slice c b.length f), (15, iv (b.length : Int)), (16, iv d.2), (56, .slice ((i 0).1) g.Gave.length ((i 0).2)), (57, iv (g.Gave.length : Int)), (58, iv l.2)] a) b5 (fun a ha => ⟨o, n, H, bs, Q.pk [0], ha.s⟩) ?_)
    clear hm
    intro l c2 hm aq cm v ⟨t, q, I, ah, x, bk⟩
    refine G_use bk (G_seq (G_region (wR 1 [(0, .slice j h.length k), (1, .slice c b.length f), (5, .slice t l.1.length q), (14, .slice c b.length f), (15, iv (b.length : Int)), (16, iv d.2), (56, .slice ((i 0).1) g.Gave.length ((i 0).2)), (57, iv (g.Gave.length : Int)), (58, iv l.2), (59, .bool (decide (l.2 < (g.Gave.length : Int))))] v (W_nil (N_then (G_seq ?_))))))
    rcases gx_bif hm with ⟨ab, hm⟩ | ⟨ab, hm⟩
    ·refine gT ab (G_skip (N_then (G_seq (G_block (G_seq (G_region ?_))))))
     obtain ⟨u, ar, hm⟩ := gx_bind hm
     refine wV (elemP ((i 0).1) (l.2.toNat * 1)) v (eI ((af.mem0 x).at_ A 0 ⟨Int, Gx.encI, g.Gave, (i 0).1, (i 0).2⟩ (by kernel_rfl)) rfl ar) (wV (iv u) v (eE false 1 0 (l.2.toNat * 1) ((af.mem0 x).at_ A 0 ⟨Int, Gx.encI, g.Gave, (i 0).1, (i 0).2⟩ (by kernel_rfl)) ar) (wR 1 [(0, .slice j h.length k), (1, .slice c b.length f), (5, .slice t l.1.length q), (9, iv u), (14, .slice c b.length f), (15, iv (b.length : Int)), (16, iv d.2), (56, .slice ((i 0).1) g.Gave.length ((i 0).2)), (57, iv (g.Gave.length : Int)), (58, iv l.2)] v (W_nil (N_then (G_seq (G_seq ?_))))))
     obtain ⟨b9, bv, bq⟩ := gx_bind hm
     refine G_meet (fun a w' => Mem [] w w' [I] ∧ Sat Try.f17.ntmps [(0, .slice j h.length k), (1, .slice c b.length f), (5, .slice t l.1.length q), (9, iv u), (14, .slice c b.length f), (15, iv (b.length : Int)), (16, iv d.2), (56, .slice ((i 0).1) g.Gave.length ((i 0).2)), (57, iv (g.Gave.length : Int)), (58, iv l.2), (71, .bool b9)] a) ?_ ?_
     ·have hm := bv
      refine G_region (wR 2 [(0, .slice j h.length k), (1, .slice c b.length f), (5, .slice t l.1.length q), (9, iv u), (14, .slice c b.length f), (15, iv (b.length : Int)), (16, iv d.2), (56, .slice ((i 0).1) g.Gave.length ((i 0).2)), (57, iv (g.Gave.length : Int)), (58, iv l.2), (62, .slice j h.length k), (63, iv u)] v ?_)
      obtain ⟨a0, au, hm⟩ := gx_bind hm
      refine wV (elemP j (u.toNat * 1)) v (eI (T.mem0 x) rfl au) (wV (iv a0) v (eE false 1 0 (u.toNat * 1) (T.mem0 x) au) (wR 2 [(0, .slice j h.length k), (1, .slice c b.length f), (5, .slice t l.1.length q), (9, iv u), (14, .slice c b.length f), (15, iv (b.length : Int)), (16, iv d.2), (56, .slice ((i 0).1) g.Gave.length ((i 0).2)), (57, iv (g.Gave.length : Int)), (58, iv l.2), (67, .bool (a0 != 0))] v ?_))
      rcases gx_bif hm with ⟨ac, hm⟩ | ⟨ac, hm⟩
      ·refine wK 67 true ac (wR 4 [(0, .slice j h.length k), (1, .slice c b.length f), (5, .slice t l.1.length q), (9, iv u), (14, .slice c b.length f), (15, iv (b.length : Int)), (16, iv d.2), (56, .slice ((i 0).1) g.Gave.length ((i 0).2)), (57, iv (g.Gave.length : Int)), (58, iv l.2), (71, .bool true)] v (W_nil ?_))
       obtain rfl := Option.some.inj hm
       exact N_meet fun a ha => ⟨x.pk [0], ha.s⟩
      refine wK 67 false ac (wR 2 [(0, .slice j h.length k), (1, .slice c b.length f), (5, .slice t l.1.length q), (9, iv u), (14, .slice c b.length f), (15, iv (b.length : Int)), (16, iv d.2), (56, .slice ((i 0).1) g.Gave.length ((i 0).2)), (57, iv (g.Gave.length : Int)), (58, iv l.2), (67, .bool false), (68, .slice t l.1.length q), (69, iv u)] v ?_)
      obtain ⟨cd, b3, hm⟩ := gx_bind hm
      refine wC 53 #[.slice t l.1.length q, iv u] ((c_slices_Contains_53 v l.1 t q (ah.rd x 0 (by kernel_rfl)) u b3).mono ?_)
      rintro e_ ch ⟨rfl, a4⟩
      have bd := x.call0 a4
      refine ⟨_, rfl, ?_⟩
      refine wR 1 [(0, .slice j h.length k), (1, .slice c b.length f), (5, .slice t l.1.length q), (9, iv u), (14, .slice c b.length f), (15, iv (b.length : Int)), (16, iv d.2), (56, .slice ((i 0).1) g.Gave.length ((i 0).2)), (57, iv (g.Gave.length : Int)), (58, iv l.2), (71, .bool cd)] ch (W_nil ?_)
      obtain rfl := Option.some.inj hm
      exact N_meet fun a ha => ⟨bd.pk [0], ha.s⟩
     intro cn ay ⟨am, bl⟩
     refine N_use bl ?_
     have hm := bq
     refine N_then ?_
     rcases gx_bif hm with ⟨ad, hm⟩ | ⟨ad, hm⟩
     ·refine gT ad (G_seq (G_region (wR 1 [(4, .bool false)] ay (W_nil (N_then (G_ret (N_then_ret (N_block_ret (N_then_ret (N_then_ret ?_))))))))))
      obtain rfl := Option.some.inj hm
      obtain rfl := aq _ rfl
      have hm := ap; simp only [Sum.elim_inr] at hm
      refine N_block_ret (N_meet_ret (N_block_ret (N_then_ret (N_then_ret ?_))))
      obtain rfl := Option.some.inj hm
      obtain rfl := ai _ rfl
      have hm := ag; simp only [Sum.elim_inr] at hm
      refine N_block_ret (N_meet_ret (N_then_ret ?_))
      obtain rfl := Option.some.inj hm
      exact N_ret [.bool false] (rC RVs_nil) (⟨rfl, am.pk []⟩)
     refine gF ad (G_skip (N_then (G_region (wR 2 [(0, .slice j h.length k), (1, .slice c b.length f), (5, .slice t l.1.length q), (14, .slice c b.length f), (15, iv (b.length : Int)), (16, iv d.2), (56, .slice ((i 0).1) g.Gave.length ((i 0).2)), (57, iv (g.Gave.length : Int)), (58, iv l.2), (72, .slice t l.1.length q), (73, iv u)] ay (wL (E := Gx.encI) [u] 1 [iv u] 3 am ?_)))))
     intro cs cq ct c0 bw an
     obtain ⟨ao, bo, hm⟩ := gx_bind hm
     refine wA 8 [iv 0] 0 an ah (bw.rd an 1 (by kernel_rfl)) bo ?_
     intro ak S cf az bx be
     refine wR 1 [(0, .slice j h.length k), (1, .slice c b.length f), (5, .slice ak ao.length S), (14, .slice c b.length f), (15, iv (b.length : Int)), (16, iv d.2), (56, .slice ((i 0).1) g.Gave.length ((i 0).2)), (57, iv (g.Gave.length : Int)), (58, iv l.2)] az (W_nil (N_block (N_then (G_region (wR 2 [(0, .slice j h.length k), (1, .slice c b.length f), (5, .slice ak ao.length S), (14, .slice c b.length f), (15, iv (b.length : Int)), (16, iv d.2), (56, .slice ((i 0).1) g.Gave.length ((i 0).2)), (57, iv (g.Gave.length : Int)), (58, iv (w64 (l.2 + 1)))] az (W_nil ?_))))))
     obtain rfl := Option.some.inj hm
     exact N_loop fun a ha => ⟨_, rfl, ak, S, cf, bx, be.pk [0], ha.s⟩
    refine gF ab (G_exit (N_then_exit (N_then_exit (N_block_eq ?_))))
    obtain rfl := Option.some.inj hm
    obtain rfl := aq _ rfl
    exact N_meet fun a ha => ⟨_, t, q, I, ah, rfl, x.pk [0], ha.s⟩
   intro co ci ⟨C, D, z, N, bu, hout_, bf, bm⟩
   refine N_use bm ?_
   subst hout_
   have hm := ap; simp only [Sum.elim_inl] at hm
   refine N_block (N_then (G_region (wR 2 [(0, .slice j h.length k), (1, .slice c b.length f), (5, .slice D C.length z), (14, .slice c b.length f), (15, iv (b.length : Int)), (16, iv (w64 (d.2 + 1)))] ci (W_nil ?_))))
   obtain rfl := Option.some.inj hm
   exact N_loop fun a ha => ⟨_, rfl, D, z, N, bu, bf.pk [0], ha.s⟩
  refine gF V (G_exit (N_then_exit (N_then_exit (N_block_eq ?_))))
  obtain rfl := Option.some.inj hm
  obtain rfl := ai _ rfl
  exact N_meet fun a ha => ⟨_, rfl, J.pk [], ha.s⟩
 intro cp cj ⟨av, hout_, bg, bn⟩
 refine N_use bn ?_
 subst hout_
 have hm := ag; simp only [Sum.elim_inl] at hm
 refine N_then (G_seq (G_region (wR 1 [(4, .bool true)] cj (W_nil (N_then (G_ret ?_))))))
 obtain rfl := Option.some.inj hm
 exact N_ret [.bool true] (rC RVs_nil) (⟨rfl, bg.pk []⟩)
theorem c_l_eqIntS (w : World) (c : List Int) (f : Option Addr) (h : Nat) (t : rdS Gx.encI w c f h) (d : List Int) (g : Option Addr) (i : Nat) (u : rdS Gx.encI w d g i) {r : Bool} (hm : M.l_eqIntS c d = some r) :
  Calls Try.prog 18 #[.slice f c.length h, .slice g d.length i] w fun e w' => e = .returned (.bool r) ∧ Mem [] w w' [] := by
 unfold M.l_eqIntS at hm
 refine cE Try.func18 ?_
 have M0 := Mem.refl [] w
 refine G_seq (G_region (wR 1 [(0, .slice f c.length h), (1, .slice g d.length i)] w (W_nil (N_then (G_seq (G_seq (G_region (wR 5 [(0, .slice f c.length h), (1, .slice g d.length i), (10, .bool ((c.length : Int) != (d.length : Int)))] w (W_nil (N_then ?_))))))))))
 rcases gx_bif hm with ⟨k, hm⟩ | ⟨k, hm⟩
 ·refine gT k (G_seq (G_region (wR 1 [(4, .bool false)] w (W_nil (N_then (G_ret (N_then_ret ?_)))))))
  obtain rfl := Option.some.inj hm
  exact N_ret [.bool false] (rC RVs_nil) (⟨rfl, M0.pk []⟩)
 refine gF k (G_skip (N_then (G_seq (G_seq (G_region (wR 1 [(0, .slice f c.length h), (1, .slice g d.length i), (5, iv 0)] w (W_nil (N_then ?_))))))))
 obtain ⟨G, F, v⟩ := gx_bind hm
 refine G_meet (fun a w' => ∃ (A : Unit), G = .inl A ∧ Mem [] w w' [] ∧ Sat Try.f18.ntmps [] a) ?_ ?_
 ·refine G_block (G_while (σ := Int) (ρ := (Unit) ⊕ (Bool)) (fun b a w' => Mem [] w w' [] ∧ Sat Try.f18.ntmps [(0, .slice f c.length h), (1, .slice g d.length i), (5, iv b)] a) F (fun a ha => ⟨M0.pk [], ha.s⟩) ?_)
  clear hm
  intro b L hm x J H ⟨o, D⟩
  refine G_use D (G_seq (G_seq (G_region (wR 4 [(0, .slice f c.length h), (1, .slice g d.length i), (5, iv b), (14, .bool (decide (b < (c.length : Int))))] H (W_nil (N_then ?_))))))
  rcases gx_bif hm with ⟨l, hm⟩ | ⟨l, hm⟩
  ·refine gT l (G_skip (N_then (G_seq (G_block (G_seq (G_quiet (by kernel_rfl) (by kernel_rfl) o (zR [.slice f c.length h, iv b] [(0, .slice f c.length h), (1, .slice g d.length i), (5, iv b), (17, .slice f c.length h), (18, iv b)] ?_)))))))
   obtain ⟨j, y, hm⟩ := gx_bind hm
   refine zV (elemP f (b.toNat * 1)) (fun w_ M_ => (eI (t.mem0 M_) rfl y)) (zV (iv j) (fun w_ M_ => (eE false 1 0 (b.toNat * 1) (t.mem0 M_) y)) (zR [.slice g d.length i, iv b] [(0, .slice f c.length h), (1, .slice g d.length i), (5, iv b), (20, iv j), (21, .slice g d.length i), (22, iv b)] ?_))
   obtain ⟨n, z, hm⟩ := gx_bind hm
   refine zV (elemP g (b.toNat * 1)) (fun w_ M_ => (eI (u.mem0 M_) rfl z)) (zV (iv n) (fun w_ M_ => (eE false 1 0 (b.toNat * 1) (u.mem0 M_) z)) (zR [.bool (j != n)] [(0, .slice f c.length h), (1, .slice g d.length i), (5, iv b), (25, .bool (j != n))] (Z_end fun B q => (N_then ?_))))
   rcases gx_bif hm with ⟨m, hm⟩ | ⟨m, hm⟩
   ·refine gT m (G_seq (G_region (wR 1 [(4, .bool false)] B (W_nil (N_then (G_ret (N_block_ret (N_then_ret (N_then_ret ?_)))))))))
    obtain rfl := Option.some.inj hm
    obtain rfl := x _ rfl
    have hm := v; simp only [Sum.elim_inr] at hm
    refine N_block_ret (N_meet_ret (N_then_ret ?_))
    obtain rfl := Option.some.inj hm
    exact N_ret [.bool false] (rC RVs_nil) (⟨rfl, q.pk []⟩)
   refine gF m (G_skip (N_block (N_then (G_region (wR 3 [(0, .slice f c.length h), (1, .slice g d.length i), (5, iv (w64 (b + 1)))] B (W_nil ?_))))))
   obtain rfl := Option.some.inj hm
   exact N_loop fun a ha => ⟨_, rfl, q.pk [], ha.s⟩
  refine gF l (G_exit (N_then_exit (N_then_exit (N_block_eq ?_))))
  obtain rfl := Option.some.inj hm
  obtain rfl := x _ rfl
  exact N_meet fun a ha => ⟨_, rfl, o.pk [], ha.s⟩
 intro K I ⟨A, hout_, C, E⟩
 refine N_use E ?_
 subst hout_
 have hm := v; simp only [Sum.elim_inl] at hm
 refine N_then (G_seq (G_region (wR 1 [(4, .bool true)] I (W_nil (N_then (G_ret ?_))))))
 obtain rfl := Option.some.inj hm
 exact N_ret [.bool true] (rC RVs_nil) (⟨rfl, C.pk []⟩)
theorem c_l_eqBalloon (w : World) (b : Balloon) (i : Option Addr) (h : Nat) (v : rdS Gx.encI w b.Gave i h) (c : Balloon) (k : Option Addr) (j : Nat) (x : rdS Gx.encI w c.Gave k j) {r : Bool} (hm : M.l_eqBalloon b c = some r) :
  Calls Try.prog 54 #[.agg #[iv b.Guest, iv b.Goal, .slice i b.Gave.length h], .agg #[iv c.Guest, iv c.Goal, .slice k c.Gave.length j]] w fun e w' => e = .returned (.bool r) ∧ Mem [] w w' [] := by
 unfold M.l_eqBalloon at hm
 refine cE Try.func54 ?_
 have M0 := Mem.refl [] w
 refine G_seq (G_region (wN (.cells ⟨[iv b.Guest, iv b.Goal, .slice i b.Gave.length h]⟩ 50 (0, 0)) M0 ?_))
 intro g A u
 refine wN (.cells ⟨[iv c.Guest, iv c.Goal, .slice k c.Gave.length j]⟩ 50 (0, 0)) u ?_
 intro f a d
 refine wR 1 [(2, pB g 0), (3, pB f 0)] a (W_nil (N_then (G_seq (G_seq (G_region (wR 1 [(2, pB g 0), (3, pB f 0), (5, pB g 0)] a (wV (iv b.Guest) a (eL false 1 0 (d.blk 0 rfl)) (wR 1 [(2, pB g 0), (3, pB f 0), (6, iv b.Guest), (7, pB f 0)] a (wV (iv c.Guest) a (eL false 1 0 (d.blk 1 rfl)) (wR 1 [(2, pB g 0), (3, pB f 0), (9, .bool (b.Guest != c.Guest))] a (W_nil (N_then ?_))))))))))))
 rcases gx_bif hm with ⟨l, hm⟩ | ⟨l, hm⟩
 ·refine gT l (G_seq (G_region (wR 1 [(4, .bool false)] a (W_nil (N_then (G_ret (N_then_ret ?_)))))))
  obtain rfl := Option.some.inj hm
  exact N_ret [.bool false] (rC RVs_nil) (⟨rfl, d.pk []⟩)
 refine gF l (G_skip (N_then (G_seq (G_seq (G_region (wR 1 [(2, pB g 0), (3, pB f 0), (10, pB g 1)] a (wV (iv b.Goal) a (eL false 1 1 (d.blk 0 rfl)) (wR 1 [(2, pB g 0), (3, pB f 0), (11, iv b.Goal), (12, pB f 1)] a (wV (iv c.Goal) a (eL false 1 1 (d.blk 1 rfl)) (wR 1 [(2, pB g 0), (3, pB f 0), (14, .bool (b.Goal != c.Goal))] a (W_nil (N_then ?_))))))))))))
 rcases gx_bif hm with ⟨m, hm⟩ | ⟨m, hm⟩
 ·refine gT m (G_seq (G_region (wR 1 [(4, .bool false)] a (W_nil (N_then (G_ret (N_then_ret ?_)))))))
  obtain rfl := Option.some.inj hm
  exact N_ret [.bool false] (rC RVs_nil) (⟨rfl, d.pk []⟩)
 refine gF m (G_skip (N_then (G_seq (G_seq (G_region (wR 1 [(3, pB f 0), (15, pB g 2)] a (wV (.slice i b.Gave.length h) a (eL false 1 2 (d.blk 0 rfl)) (wR 1 [(16, .slice i b.Gave.length h), (17, pB f 2)] a (wV (.slice k c.Gave.length j) a (eL false 1 2 (d.blk 1 rfl)) ?_)))))))))
 obtain ⟨z, y, hm⟩ := gx_bind hm
 refine wC 18 #[.slice i b.Gave.length h, .slice k c.Gave.length j] ((c_l_eqIntS a b.Gave i h (v.mem0 d) c.Gave k j (x.mem0 d) y).mono ?_)
 rintro e_ o ⟨rfl, t⟩
 have q := d.call0 t
 refine ⟨_, rfl, ?_⟩
 refine wR 1 [(20, .bool (!z))] o (W_nil (N_then ?_))
 rcases gx_bif hm with ⟨n, hm⟩ | ⟨n, hm⟩
 ·refine gT n (G_seq (G_region (wR 1 [(4, .bool false)] o (W_nil (N_then (G_ret (N_then_ret ?_)))))))
  obtain rfl := Option.some.inj hm
  exact N_ret [.bool false] (rC RVs_nil) (⟨rfl, q.pk []⟩)
 refine gF n (G_skip (N_then (G_seq (G_region (wR 1 [(4, .bool true)] o (W_nil (N_then (G_ret ?_))))))))
 obtain rfl := Option.some.inj hm
 exact N_ret [.bool true] (rC RVs_nil) (⟨rfl, q.pk []⟩)
theorem c_l_eqBalloonS (w : World) (c : List Balloon) (f : Option Addr) (h : Nat) (I : rdD deepBalloon w c f h) (d : List Balloon) (g : Option Addr) (i : Nat) (J : rdD deepBalloon w d g i) {r : Bool} (hm : M.l_eqBalloonS c d = some r) :
  Calls Try.prog 19 #[.slice f c.length h, .slice g d.length i] w fun e w' => e = .returned (.bool r) ∧ Mem [] w w' [] := by
 unfold M.l_eqBalloonS at hm
 refine cE Try.func19 ?_
 have M0 := Mem.refl [] w
 refine G_seq (G_region (wR 1 [(0, .slice f c.length h), (1, .slice g d.length i)] w (W_nil (N_then (G_seq (G_seq (G_region (wR 5 [(0, .slice f c.length h), (1, .slice g d.length i), (10, .bool ((c.length : Int) != (d.length : Int)))] w (W_nil (N_then ?_))))))))))
 rcases gx_bif hm with ⟨n, hm⟩ | ⟨n, hm⟩
 ·refine gT n (G_seq (G_region (wR 1 [(4, .bool false)] w (W_nil (N_then (G_ret (N_then_ret ?_)))))))
  obtain rfl := Option.some.inj hm
  exact N_ret [.bool false] (rC RVs_nil) (⟨rfl, M0.pk []⟩)
 refine gF n (G_skip (N_then (G_seq (G_seq (G_region (wR 1 [(0, .slice f c.length h), (1, .slice g d.length i), (5, iv 0)] w (W_nil (N_then ?_))))))))
 obtain ⟨T, Q, z⟩ := gx_bind hm
 refine G_meet (fun a w' => ∃ (F : Unit), T = .inl F ∧ Mem [] w w' [] ∧ Sat Try.f19.ntmps [] a) ?_ ?_
 ·refine G_block (G_while (σ := Int) (ρ := (Unit) ⊕ (Bool)) (fun b a w' => Mem [] w w' [] ∧ Sat Try.f19.ntmps [(0, .slice f c.length h), (1, .slice g d.length i), (5, iv b)] a) Q (fun a ha => ⟨M0.pk [], ha.s⟩) ?_)
  clear hm
  intro b Y hm A W U ⟨x, K⟩
  refine G_use K (G_seq (G_seq (G_region (wR 4 [(0, .slice f c.length h), (1, .slice g d.length i), (5, iv b), (14, .bool (decide (b < (c.length : Int))))] U (W_nil (N_then ?_))))))
  rcases gx_bif hm with ⟨o, hm⟩ | ⟨o, hm⟩
  ·refine gT o (G_skip (N_then (G_seq (G_block (G_seq (G_quiet (by kernel_rfl) (by kernel_rfl) x (zR [.slice f c.length h, iv b] [(0, .slice f c.length h), (1, .slice g d.length i), (5, iv b), (17, .slice f c.length h), (18, iv b)] ?_)))))))
   obtain ⟨j, R, hm⟩ := gx_bind hm
   obtain ⟨Z, D, B, N⟩ := id I
   obtain ⟨k, t⟩ := gxIdx_fst D R
   refine zV (elemP f (b.toNat * 3)) (fun w_ M_ => (eI (B.mem0 M_) (len_fst D) t)) (zV (.agg #[iv j.Guest, iv j.Goal, .slice ((k 0).1) j.Gave.length ((k 0).2)]) (fun w_ M_ => (eE true 3 0 (b.toNat * 3) (B.mem0 M_) t)) (zR [.slice g d.length i, iv b] [(0, .slice f c.length h), (1, .slice g d.length i), (5, iv b), (20, .agg #[iv j.Guest, iv j.Goal, .slice ((k 0).1) j.Gave.length ((k 0).2)]), (21, .slice g d.length i), (22, iv b)] ?_))
   obtain ⟨m, S, hm⟩ := gx_bind hm
   obtain ⟨aa, E, C, O⟩ := id J
   obtain ⟨l, u⟩ := gxIdx_fst E S
   refine zV (elemP g (b.toNat * 3)) (fun w_ M_ => (eI (C.mem0 M_) (len_fst E) u)) (zV (.agg #[iv m.Guest, iv m.Goal, .slice ((l 0).1) m.Gave.length ((l 0).2)]) (fun w_ M_ => (eE true 3 0 (b.toNat * 3) (C.mem0 M_) u)) ?_)
   obtain ⟨v, P, hm⟩ := gx_bind hm
   refine Z_call 54 #[.agg #[iv j.Guest, iv j.Goal, .slice ((k 0).1) j.Gave.length ((k 0).2)], .agg #[iv m.Guest, iv m.Goal, .slice ((l 0).1) m.Gave.length ((l 0).2)]] (.bool v) (by kernel_rfl) (fun w_ => by kernel_rfl) (fun w_ M_ => (c_l_eqBalloon w_ j ((k 0).1) ((k 0).2) ((N.mem0 M_).at_ t 0 ⟨Int, Gx.encI, j.Gave, (k 0).1, (k 0).2⟩ (by kernel_rfl)) m ((l 0).1) ((l 0).2) ((O.mem0 M_).at_ u 0 ⟨Int, Gx.encI, m.Gave, (l 0).1, (l 0).2⟩ (by kernel_rfl)) P).mono fun e w2_ h_ => ⟨h_.1, M_.call0 h_.2⟩) (zR [.bool (!v)] [(0, .slice f c.length h), (1, .slice g d.length i), (5, iv b), (26, .bool (!v))] (Z_end fun G y => (N_then ?_)))
   rcases gx_bif hm with ⟨q, hm⟩ | ⟨q, hm⟩
   ·refine gT q (G_seq (G_region (wR 1 [(4, .bool false)] G (W_nil (N_then (G_ret (N_block_ret (N_then_ret (N_then_ret ?_)))))))))
    obtain rfl := Option.some.inj hm
    obtain rfl := A _ rfl
    have hm := z; simp only [Sum.elim_inr] at hm
    refine N_block_ret (N_meet_ret (N_then_ret ?_))
    obtain rfl := Option.some.inj hm
    exact N_ret [.bool false] (rC RVs_nil) (⟨rfl, y.pk []⟩)
   refine gF q (G_skip (N_block (N_then (G_region (wR 3 [(0, .slice f c.length h), (1, .slice g d.length i), (5, iv (w64 (b + 1)))] G (W_nil ?_))))))
   obtain rfl := Option.some.inj hm
   exact N_loop fun a ha => ⟨_, rfl, y.pk [], ha.s⟩
  refine gF o (G_exit (N_then_exit (N_then_exit (N_block_eq ?_))))
  obtain rfl := Option.some.inj hm
  obtain rfl := A _ rfl
  exact N_meet fun a ha => ⟨_, rfl, x.pk [], ha.s⟩
 intro X V ⟨F, hout_, H, L⟩
 refine N_use L ?_
 subst hout_
 have hm := z; simp only [Sum.elim_inl] at hm
 refine N_then (G_seq (G_region (wR 1 [(4, .bool true)] V (W_nil (N_then (G_ret ?_))))))
 obtain rfl := Option.some.inj hm
 exact N_ret [.bool true] (rC RVs_nil) (⟨rfl, H.pk []⟩)
theorem c_l_FnExactAreBalloons (w : World) (x1 : List Int) (p3 : Option Addr) (c4 : Nat) (h5 : rdS Gx.encI w x1 p3 c4) (x6 : List Balloon) (p8 : Option Addr) (c9 : Nat) (k : rdD deepBalloon w x6 p8 c9) {r : Bool} (hm : M.l_FnExactAreBalloons x1 x6 = some r) :
  Calls Try.prog 3 #[.slice p3 x1.length c4, .slice p8 x6.length c9] w fun e w' => e = .returned (.bool r) ∧ Mem [] w w' [] := by
 unfold M.l_FnExactAreBalloons at hm
 refine cE Try.func3 ?_
 have M0 := Mem.refl [] w
 refine G_seq (G_region (wR 1 [(0, .slice p3 x1.length c4), (1, .slice p8 x6.length c9)] w (W_nil (N_then (G_seq (G_seq (G_region (wR 3 [(0, .slice p3 x1.length c4), (1, .slice p8 x6.length c9), (12, .bool (decide ((x1.length : Int) > 1048576)))] w (W_nil (N_then ?_))))))))))
 rcases gx_bif hm with ⟨z, hm⟩ | ⟨z, hm⟩
 ·refine gT z (G_seq (G_region (wR 1 [(4, .bool true)] w (W_nil (N_then (G_ret (N_then_ret ?_)))))))
  obtain rfl := Option.some.inj hm
  exact N_ret [.bool true] (rC RVs_nil) (⟨rfl, M0.pk []⟩)
 refine gF z (G_skip (N_then (G_seq (G_region (wR 1 [(0, .slice p3 x1.length c4), (1, .slice p8 x6.length c9), (5, iv 1048576)] w (W_nil (N_then (G_seq (G_region (wR 2 [(0, .slice p3 x1.length c4), (1, .slice p8 x6.length c9), (5, iv 1048576), (13, .slice p8 x6.length c9), (14, iv 1048576)] w ?_))))))))))
 obtain ⟨aa, a5, hm⟩ := gx_bind hm
 refine wC 13 #[.slice p8 x6.length c9, iv 1048576] ((c_l_szBalloonS w x6 p8 c9 (k.mem0 M0) 1048576 a5).mono ?_)
 rintro e_ j ⟨rfl, ac⟩
 have m := M0.call0 ac
 refine ⟨_, rfl, ?_⟩
 refine wR 1 [(0, .slice p3 x1.length c4), (1, .slice p8 x6.length c9), (5, iv aa)] j (W_nil (N_then (G_seq (G_seq (G_region (wR 2 [(0, .slice p3 x1.length c4), (1, .slice p8 x6.length c9), (17, .bool (decide (aa < 0)))] j (W_nil (N_then ?_))))))))
 rcases gx_bif hm with ⟨y, hm⟩ | ⟨y, hm⟩
 ·refine gT y (G_seq (G_region (wR 1 [(4, .bool true)] j (W_nil (N_then (G_ret (N_then_ret ?_)))))))
  obtain rfl := Option.some.inj hm
  exact N_ret [.bool true] (rC RVs_nil) (⟨rfl, m.pk []⟩)
 refine gF y (G_skip (N_then (G_seq (G_region (wR 1 [(0, .slice p3 x1.length c4), (1, .slice p8 x6.length c9), (18, .slice p3 x1.length c4)] j ?_)))))
 obtain ⟨E, aw, hm⟩ := gx_bind hm
 refine wC 15 #[.slice p3 x1.length c4] ((c_l_toIntS j x1 p3 c4 (h5.mem0 m) aw).mono ?_)
 rintro e_ ab ⟨D, x, be, rfl, an, ag⟩
 have L := m.call ag
 refine ⟨_, rfl, ?_⟩
 refine wR 1 [(0, .slice p3 x1.length c4), (1, .slice p8 x6.length c9), (19, .slice D E.length x), (20, .slice p8 x6.length c9)] ab ?_
 obtain ⟨Z, a4, hm⟩ := gx_bind hm
 refine wC 16 #[.slice p8 x6.length c9] ((c_l_toBalloonS ab x6 p8 c9 (k.mem0 L) a4).mono ?_)
 rintro e_ ba ⟨V, Q, bi, bj, rfl, aq, am⟩
 have v := L.call am
 refine ⟨_, rfl, ?_⟩
 obtain ⟨h, ar, hm⟩ := gx_bind hm
 refine wC 14 #[.slice D E.length x, .slice V Z.length Q] ((c_s_AreBalloons ba E D x (an.rd v 0 (by kernel_rfl)) Z V Q (aq.rd v 1 (by kernel_rfl) 2 (by kernel_rfl)) ar).mono ?_)
 rintro e_ F ⟨rfl, ad⟩
 have J := v.call0 ad
 refine ⟨_, rfl, ?_⟩
 refine wR 1 [(0, .slice p3 x1.length c4), (1, .slice p8 x6.length c9), (6, .bool h)] F (W_nil (N_then (G_seq (G_region (wR 1 [(0, .slice p3 x1.length c4), (1, .slice p8 x6.length c9), (6, .bool h), (23, .slice p3 x1.length c4)] F ?_)))))
 obtain ⟨f, au, hm⟩ := gx_bind hm
 refine wC 15 #[.slice p3 x1.length c4] ((c_l_toIntS F x1 p3 c4 (h5.mem0 J) au).mono ?_)
 rintro e_ G ⟨c, a, bb, rfl, R, ae⟩
 have K := J.call ae
 refine ⟨_, rfl, ?_⟩
 refine wR 1 [(0, .slice p3 x1.length c4), (1, .slice p8 x6.length c9), (6, .bool h), (7, .slice c f.length a)] G (W_nil (N_then (G_seq (G_region (wR 1 [(0, .slice p3 x1.length c4), (1, .slice p8 x6.length c9), (6, .bool h), (7, .slice c f.length a), (25, .slice p8 x6.length c9)] G ?_)))))
 obtain ⟨g, av, hm⟩ := gx_bind hm
 refine wC 16 #[.slice p8 x6.length c9] ((c_l_toBalloonS G x6 p8 c9 (k.mem0 K) av).mono ?_)
 rintro e_ H ⟨d, b, bc, bd, rfl, S, af⟩
 have n := K.call af
 refine ⟨_, rfl, ?_⟩
 refine wR 1 [(0, .slice p3 x1.length c4), (1, .slice p8 x6.length c9), (6, .bool h), (7, .slice c f.length a), (8, .slice d g.length b)] H (W_nil (N_then (G_seq (G_region (wR 2 [(0, .slice p3 x1.length c4), (1, .slice p8 x6.length c9), (6, .bool h), (7, .slice c f.length a), (8, .slice d g.length b), (27, .slice c f.length a), (28, .slice d g.length b)] H ?_)))))
 obtain ⟨W, ax, hm⟩ := gx_bind hm
 refine wC 17 #[.slice c f.length a, .slice d g.length b] ((c_i_AreBalloons H f c a (R.rd n 3 (by kernel_rfl)) g d b (S.rd n 4 (by kernel_rfl) 5 (by kernel_rfl)) ax).mono ?_)
 rintro e_ i ⟨rfl, ah⟩
 have o := n.call0 ah
 refine ⟨_, rfl, ?_⟩
 refine wR 1 [(0, .slice p3 x1.length c4), (1, .slice p8 x6.length c9), (6, .bool h), (7, .slice c f.length a), (8, .slice d g.length b), (9, .bool W)] i (W_nil (N_then (G_seq (G_seq (G_region (wR 3 [(0, .slice p3 x1.length c4), (1, .slice p8 x6.length c9), (7, .slice c f.length a), (8, .slice d g.length b), (32, .bool (!(W == h)))] i (W_nil (N_then ?_))))))))
 rcases gx_bif hm with ⟨A, hm⟩ | ⟨A, hm⟩
 ·refine gT A (G_seq (G_region (wR 1 [(4, .bool false)] i (W_nil (N_then (G_ret (N_then_ret ?_)))))))
  obtain rfl := Option.some.inj hm
  exact N_ret [.bool false] (rC RVs_nil) (⟨rfl, o.pk []⟩)
 refine gF A (G_skip (N_then (G_seq (G_seq (G_region (wR 2 [(1, .slice p8 x6.length c9), (8, .slice d g.length b), (33, .slice c f.length a), (34, .slice p3 x1.length c4)] i ?_))))))
 obtain ⟨X, ay, hm⟩ := gx_bind hm
 refine wC 15 #[.slice p3 x1.length c4] ((c_l_toIntS i x1 p3 c4 (h5.mem0 o) ay).mono ?_)
 rintro e_ a8 ⟨T, O, bf, rfl, ao, ai⟩
 have q := o.call ai
 refine ⟨_, rfl, ?_⟩
 obtain ⟨a6, az, hm⟩ := gx_bind hm
 refine wC 18 #[.slice c f.length a, .slice T X.length O] ((c_l_eqIntS a8 f c a (R.rd q 3 (by kernel_rfl)) X T O (ao.rd q 6 (by kernel_rfl)) az).mono ?_)
 rintro e_ l ⟨rfl, aj⟩
 have t := q.call0 aj
 refine ⟨_, rfl, ?_⟩
 refine wR 1 [(1, .slice p8 x6.length c9), (8, .slice d g.length b), (37, .bool (!a6))] l (W_nil (N_then ?_))
 rcases gx_bif hm with ⟨B, hm⟩ | ⟨B, hm⟩
 ·refine gT B (G_seq (G_region (wR 1 [(4, .bool false)] l (W_nil (N_then (G_ret (N_then_ret ?_)))))))
  obtain rfl := Option.some.inj hm
  exact N_ret [.bool false] (rC RVs_nil) (⟨rfl, t.pk []⟩)
 refine gF B (G_skip (N_then (G_seq (G_seq (G_region (wR 2 [(38, .slice d g.length b), (39, .slice p8 x6.length c9)] l ?_))))))
 obtain ⟨Y, a0, hm⟩ := gx_bind hm
 refine wC 16 #[.slice p8 x6.length c9] ((c_l_toBalloonS l x6 p8 c9 (k.mem0 t) a0).mono ?_)
 rintro e_ a9 ⟨U, P, bg, bh, rfl, ap, ak⟩
 have u := t.call ak
 refine ⟨_, rfl, ?_⟩
 obtain ⟨a7, a3, hm⟩ := gx_bind hm
 refine wC 19 #[.slice d g.length b, .slice U Y.length P] ((c_l_eqBalloonS a9 g d b (S.rd u 4 (by kernel_rfl) 5 (by kernel_rfl)) Y U P (ap.rd u 7 (by kernel_rfl) 8 (by kernel_rfl)) a3).mono ?_)
 rintro e_ I ⟨rfl, al⟩
 have N := u.call0 al
 refine ⟨_, rfl, ?_⟩
 refine wR 1 [(42, .bool (!a7))] I (W_nil (N_then ?_))
 rcases gx_bif hm with ⟨C, hm⟩ | ⟨C, hm⟩
 ·refine gT C (G_seq (G_region (wR 1 [(4, .bool false)] I (W_nil (N_then (G_ret (N_then_ret ?_)))))))
  obtain rfl := Option.some.inj hm
  exact N_ret [.bool false] (rC RVs_nil) (⟨rfl, N.pk []⟩)
 refine gF C (G_skip (N_then (G_seq (G_region (wR 1 [(4, .bool true)] I (W_nil (N_then (G_ret ?_))))))))
 obtain rfl := Option.some.inj hm
 exact N_ret [.bool true] (rC RVs_nil) (⟨rfl, N.pk []⟩)
theorem c_s_l1Most (w : World) (a : Int) (b : Int) {r : Int} (hm : M.s_l1Most a b = some r) :
  Calls Try.prog 55 #[iv a, iv b] w fun e w' => e = .returned (iv r) ∧ Mem [] w w' [] := by
 unfold M.s_l1Most at hm
 refine cE Try.func55 ?_
 have M0 := Mem.refl [] w
 refine G_seq (G_region (wR 1 [(0, iv a), (1, iv b)] w (W_nil (N_then (G_seq (G_seq (G_region (wR 3 [(0, iv a), (1, iv b), (7, .bool (decide (a > b)))] w (W_nil (N_then ?_))))))))))
 rcases gx_bif hm with ⟨c, hm⟩ | ⟨c, hm⟩
 ·refine gT c (G_seq (G_region (wR 2 [(4, iv a)] w (W_nil (N_then (G_ret (N_then_ret ?_)))))))
  obtain rfl := Option.some.inj hm
  exact N_ret [iv a] (rC RVs_nil) (⟨rfl, M0.pk []⟩)
 refine gF c (G_skip (N_then (G_seq (G_region (wR 2 [(4, iv b)] w (W_nil (N_then (G_ret ?_))))))))
 obtain rfl := Option.some.inj hm
 exact N_ret [iv b] (rC RVs_nil) (⟨rfl, M0.pk []⟩)
theorem c_s_GivenFrames (w : World) (h : List Int) (m : Option Addr) (j : Nat) (J : rdS Gx.encI w h m j) (d : List Balloon) (c : Option Addr) (f : Nat) (F : rdD deepBalloon w d c f) {r : Int × Int × Bool} (hm : M.s_GivenFrames h d = some r) :
  Calls Try.prog 20 #[.slice m h.length j, .slice c d.length f] w fun e w' => e = .returned (.tuple #[iv r.1, iv r.2.1, .bool r.2.2]) ∧ Mem [] w w' [] := by
 unfold M.s_GivenFrames at hm
 refine cE Try.func20 ?_
 have M0 := Mem.refl [] w
 refine G_seq (G_region (wR 3 [(0, .slice m h.length j), (1, .slice c d.length f)] w (W_nil (N_then (G_seq (G_seq (G_region (wR 2 [(1, .slice c d.length f), (10, .slice m h.length j), (11, .slice c d.length f)] w ?_))))))))
 obtain ⟨V, P, hm⟩ := gx_bind hm
 refine wC 47 #[.slice m h.length j, .slice c d.length f] ((c_s_l18Good w h m j (J.mem0 M0) d c f (F.mem0 M0) P).mono ?_)
 rintro e_ v ⟨rfl, G⟩
 have C := M0.call0 G
 refine ⟨_, rfl, ?_⟩
 refine wR 1 [(1, .slice c d.length f), (13, .bool (!V))] v (W_nil (N_then ?_))
 rcases gx_bif hm with ⟨x, hm⟩ | ⟨x, hm⟩
 ·refine gT x (G_seq (G_region (wR 3 [(4, iv 0), (5, iv 0), (6, .bool false)] v (W_nil (N_then (G_ret (N_then_ret ?_)))))))
  obtain rfl := Option.some.inj hm
  exact N_ret [iv 0, iv 0, .bool false] (rC (rC (rC RVs_nil))) (⟨rfl, C.pk []⟩)
 refine gF x (G_skip (N_then (G_seq (G_region (wR 2 [(1, .slice c d.length f), (7, iv 0), (8, iv 0)] v (W_nil (N_then (G_seq (G_seq (G_region (wR 1 [(1, .slice c d.length f), (7, iv 0), (8, iv 0), (9, iv 0)] v (W_nil (N_then ?_)))))))))))))
 obtain ⟨l, R, N⟩ := gx_bind hm
 refine G_meet (fun a w' => Mem [] w w' [] ∧ Sat Try.f20.ntmps [(7, iv l.1), (8, iv l.2)] a) ?_ ?_
 ·refine G_block (G_while (σ := Int × Int × Int) (ρ := Int × Int) (fun b a w' => Mem [] w w' [] ∧ Sat Try.f20.ntmps [(1, .slice c d.length f), (7, iv b.1), (8, iv b.2.1), (9, iv b.2.2)] a) R (fun a ha => ⟨C.pk [], ha.s⟩) ?_)
  clear hm
  intro b ac hm O Y n ⟨t, K⟩
  refine G_use K (G_seq (G_seq (G_region (wR 4 [(1, .slice c d.length f), (7, iv b.1), (8, iv b.2.1), (9, iv b.2.2), (17, .bool (decide (b.2.2 < (d.length : Int))))] n (W_nil (N_then ?_))))))
  rcases gx_bif hm with ⟨y, hm⟩ | ⟨y, hm⟩
  ·refine gT y (G_skip (N_then (G_seq (G_block (G_seq (G_region (wR 3 [(1, .slice c d.length f), (7, iv b.1), (8, iv b.2.1), (9, iv b.2.2), (20, iv b.1), (21, .slice c d.length f), (22, iv b.2.2)] n ?_)))))))
   obtain ⟨i, S, hm⟩ := gx_bind hm
   obtain ⟨ad, k, g, ab⟩ := id F
   obtain ⟨D, z⟩ := gxIdx_fst k S
   refine wV (elemP c (b.2.2.toNat * 3)) n (eI (g.mem0 t) (len_fst k) z) (wV (elemP c (b.2.2.toNat * 3 + 2)) n (eF 2 (b.2.2.toNat * 3) 2 (g.mem0 t) z) (wV (.slice ((D 0).1) i.Gave.length ((D 0).2)) n (eE false 1 2 (b.2.2.toNat * 3 + 2) (g.mem0 t) z) (wR 3 [(1, .slice c d.length f), (7, iv (w64 (b.1 + (i.Gave.length : Int)))), (8, iv b.2.1), (9, iv b.2.2)] n (W_nil (N_then (G_quiet (by kernel_rfl) (by kernel_rfl) t (zR [iv b.2.1, .slice c d.length f, iv b.2.2] [(1, .slice c d.length f), (7, iv (w64 (b.1 + (i.Gave.length : Int)))), (8, iv b.2.1), (9, iv b.2.2), (28, iv b.2.1), (29, .slice c d.length f), (30, iv b.2.2)] ?_)))))))
   obtain ⟨o, T, hm⟩ := gx_bind hm
   obtain ⟨aa, A⟩ := gxIdx_fst k T
   refine zV (elemP c (b.2.2.toNat * 3)) (fun w_ M_ => (eI (g.mem0 M_) (len_fst k) A)) (zV (elemP c (b.2.2.toNat * 3 + 1)) (fun w_ M_ => (eF 1 (b.2.2.toNat * 3) 1 (g.mem0 M_) A)) (zV (iv o.Goal) (fun w_ M_ => (eE false 1 1 (b.2.2.toNat * 3 + 1) (g.mem0 M_) A)) (zR [.slice c d.length f, iv b.2.2] [(1, .slice c d.length f), (7, iv (w64 (b.1 + (i.Gave.length : Int)))), (8, iv b.2.1), (9, iv b.2.2), (28, iv b.2.1), (33, iv o.Goal), (34, .slice c d.length f), (35, iv b.2.2)] ?_)))
   obtain ⟨q, U, hm⟩ := gx_bind hm
   obtain ⟨E, B⟩ := gxIdx_fst k U
   refine zV (elemP c (b.2.2.toNat * 3)) (fun w_ M_ => (eI (g.mem0 M_) (len_fst k) B)) (zV (elemP c (b.2.2.toNat * 3 + 2)) (fun w_ M_ => (eF 2 (b.2.2.toNat * 3) 2 (g.mem0 M_) B)) (zV (.slice ((E 0).1) q.Gave.length ((E 0).2)) (fun w_ M_ => (eE false 1 2 (b.2.2.toNat * 3 + 2) (g.mem0 M_) B)) (zR [iv (q.Gave.length : Int), iv (w64 (o.Goal - (q.Gave.length : Int)))] [(1, .slice c d.length f), (7, iv (w64 (b.1 + (i.Gave.length : Int)))), (8, iv b.2.1), (9, iv b.2.2), (28, iv b.2.1), (40, iv (w64 (o.Goal - (q.Gave.length : Int))))] ?_)))
   obtain ⟨u, Q, hm⟩ := gx_bind hm
   refine Z_call 55 #[iv 0, iv (w64 (o.Goal - (q.Gave.length : Int)))] (iv u) (by kernel_rfl) (fun w_ => by kernel_rfl) (fun w_ M_ => (c_s_l1Most w_ 0 (w64 (o.Goal - (q.Gave.length : Int))) Q).mono fun e w2_ h_ => ⟨h_.1, M_.call0 h_.2⟩) (zR [iv (w64 (b.2.1 + u)), iv (w64 (b.2.1 + u))] [(1, .slice c d.length f), (7, iv (w64 (b.1 + (i.Gave.length : Int)))), (8, iv (w64 (b.2.1 + u))), (9, iv b.2.2)] (Z_end fun W H => (N_block (N_then (G_region (wR 3 [(1, .slice c d.length f), (7, iv (w64 (b.1 + (i.Gave.length : Int)))), (8, iv (w64 (b.2.1 + u))), (9, iv (w64 (b.2.2 + 1)))] W (W_nil ?_)))))))
   obtain rfl := Option.some.inj hm
   exact N_loop fun a ha => ⟨_, rfl, H.pk [], ha.s⟩
  refine gF y (G_exit (N_then_exit (N_then_exit (N_block_eq ?_))))
  obtain rfl := Option.some.inj hm
  obtain rfl := O _ rfl
  exact N_meet fun a ha => ⟨t.pk [], ha.s⟩
 intro Z X ⟨I, L⟩
 refine N_use L ?_
 have hm := N
 refine N_then (G_seq (G_region (wR 5 [(4, iv l.1), (5, iv l.2), (6, .bool true)] X (W_nil (N_then (G_ret ?_))))))
 obtain rfl := Option.some.inj hm
 exact N_ret [iv l.1, iv l.2, .bool true] (rC (rC (rC RVs_nil))) (⟨rfl, I.pk []⟩)
theorem c_i_GivenFrames (w : World) (j : List Int) (n : Option Addr) (l : Nat) (G : rdS Gx.encI w j n l) (c : List Balloon) (f : Option Addr) (g : Nat) (z : rdD deepBalloon w c f g) {r : Int × Int × Bool} (hm : M.i_GivenFrames j c = some r) :
  Calls Try.prog 21 #[.slice n j.length l, .slice f c.length g] w fun e w' => e = .returned (.tuple #[iv r.1, iv r.2.1, .bool r.2.2]) ∧ Mem [] w w' [] := by
 unfold M.i_GivenFrames at hm
 refine cE Try.func21 ?_
 have M0 := Mem.refl [] w
 refine G_seq (G_region (wR 3 [(0, .slice n j.length l), (1, .slice f c.length g)] w (W_nil (N_then (G_seq (G_seq (G_region (wR 2 [(1, .slice f c.length g), (11, .slice n j.length l), (12, .slice f c.length g)] w ?_))))))))
 obtain ⟨P, L, hm⟩ := gx_bind hm
 refine wC 17 #[.slice n j.length l, .slice f c.length g] ((c_i_AreBalloons w j n l (G.mem0 M0) c f g (z.mem0 M0) L).mono ?_)
 rintro e_ t ⟨rfl, D⟩
 have y := M0.call0 D
 refine ⟨_, rfl, ?_⟩
 refine wR 1 [(1, .slice f c.length g), (14, .bool (!P))] t (W_nil (N_then ?_))
 rcases gx_bif hm with ⟨u, hm⟩ | ⟨u, hm⟩
 ·refine gT u (G_seq (G_region (wR 3 [(4, iv 0), (5, iv 0), (6, .bool false)] t (W_nil (N_then (G_ret (N_then_ret ?_)))))))
  obtain rfl := Option.some.inj hm
  exact N_ret [iv 0, iv 0, .bool false] (rC (rC (rC RVs_nil))) (⟨rfl, y.pk []⟩)
 refine gF u (G_skip (N_then (G_seq (G_region (wR 2 [(1, .slice f c.length g), (7, iv 0), (8, iv 0)] t (W_nil (N_then (G_seq (G_seq (G_region (wR 3 [(7, iv 0), (8, iv 0), (15, .slice f c.length g), (16, iv (c.length : Int)), (17, iv 0)] t (W_nil (N_then ?_)))))))))))))
 obtain ⟨m, N, J⟩ := gx_bind hm
 refine G_meet (fun a w' => Mem [] w w' [] ∧ Sat Try.f21.ntmps [(7, iv m.1), (8, iv m.2)] a) ?_ ?_
 ·refine G_block (G_while (σ := Int × Int × Int) (ρ := Int × Int) (fun b a w' => Mem [] w w' [] ∧ Sat Try.f21.ntmps [(7, iv b.1), (8, iv b.2.1), (15, .slice f c.length g), (16, iv (c.length : Int)), (17, iv b.2.2)] a) N (fun a ha => ⟨y.pk [], ha.s⟩) ?_)
  clear hm
  intro b V hm K R x ⟨o, H⟩
  refine G_use H (G_seq (G_region (wR 1 [(7, iv b.1), (8, iv b.2.1), (15, .slice f c.length g), (16, iv (c.length : Int)), (17, iv b.2.2), (18, .bool (decide (b.2.2 < (c.length : Int))))] x (W_nil (N_then (G_seq ?_))))))
  rcases gx_bif hm with ⟨v, hm⟩ | ⟨v, hm⟩
  ·refine gT v (G_skip (N_then (G_seq (G_block (G_seq (G_region ?_))))))
   obtain ⟨d, O, hm⟩ := gx_bind hm
   obtain ⟨W, C, B, T⟩ := id z
   obtain ⟨h, A⟩ := gxIdx_fst C O
   refine wV (elemP f (b.2.2.toNat * 3)) x (eI (B.mem0 o) (len_fst C) A) (wV (.agg #[iv d.Guest, iv d.Goal, .slice ((h 0).1) d.Gave.length ((h 0).2)]) x (eE true 3 0 (b.2.2.toNat * 3) (B.mem0 o) A) (wN (.cells ⟨[iv 0, iv 0, .slice none 0 0]⟩ 50 (0, 0)) o ?_))
   intro k U E
   refine wS true 3 0 (.agg #[iv d.Guest, iv d.Goal, .slice ((h 0).1) d.Gave.length ((h 0).2)]) 0 [iv d.Guest, iv d.Goal, .slice ((h 0).1) d.Gave.length ((h 0).2)] E rfl ?_
   intro i q
   refine W_nil (N_then (G_seq (G_region (wR 2 [(7, iv b.1), (8, iv b.2.1), (10, pB k 0), (15, .slice f c.length g), (16, iv (c.length : Int)), (17, iv b.2.2), (21, iv b.1), (22, pB k 2)] i (wV (.slice ((h 0).1) d.Gave.length ((h 0).2)) i (eL false 1 2 (q.blk 0 rfl)) (wR 3 [(7, iv (w64 (b.1 + (d.Gave.length : Int)))), (8, iv b.2.1), (10, pB k 0), (15, .slice f c.length g), (16, iv (c.length : Int)), (17, iv b.2.2)] i (W_nil (N_then (G_region (wR 2 [(7, iv (w64 (b.1 + (d.Gave.length : Int)))), (8, iv b.2.1), (10, pB k 0), (15, .slice f c.length g), (16, iv (c.length : Int)), (17, iv b.2.2), (26, iv b.2.1), (27, pB k 1)] i (wV (iv d.Goal) i (eL false 1 1 (q.blk 0 rfl)) (wR 1 [(7, iv (w64 (b.1 + (d.Gave.length : Int)))), (8, iv b.2.1), (15, .slice f c.length g), (16, iv (c.length : Int)), (17, iv b.2.2), (26, iv b.2.1), (28, iv d.Goal), (29, pB k 2)] i (wV (.slice ((h 0).1) d.Gave.length ((h 0).2)) i (eL false 1 2 (q.blk 0 rfl)) (wR 5 [(7, iv (w64 (b.1 + (d.Gave.length : Int)))), (8, iv (w64 (b.2.1 + (gxMax (w64 (d.Goal - (d.Gave.length : Int))) 0)))), (15, .slice f c.length g), (16, iv (c.length : Int)), (17, iv b.2.2)] i (W_nil ?_)))))))))))))))
   refine N_block (N_then (G_region (wR 2 [(7, iv (w64 (b.1 + (d.Gave.length : Int)))), (8, iv (w64 (b.2.1 + (gxMax (w64 (d.Goal - (d.Gave.length : Int))) 0)))), (15, .slice f c.length g), (16, iv (c.length : Int)), (17, iv (w64 (b.2.2 + 1)))] i (W_nil ?_))))
   obtain rfl := Option.some.inj hm
   exact N_loop fun a ha => ⟨_, rfl, q.pk [], ha.s⟩
  refine gF v (G_exit (N_then_exit (N_then_exit (N_block_eq ?_))))
  obtain rfl := Option.some.inj hm
  obtain rfl := K _ rfl
  exact N_meet fun a ha => ⟨o.pk [], ha.s⟩
 intro S Q ⟨F, I⟩
 refine N_use I ?_
 have hm := J
 refine N_then (G_seq (G_region (wR 5 [(4, iv m.1), (5, iv m.2), (6, .bool true)] Q (W_nil (N_then (G_ret ?_))))))
 obtain rfl := Option.some.inj hm
 exact N_ret [iv m.1, iv m.2, .bool true] (rC (rC (rC RVs_nil))) (⟨rfl, F.pk []⟩)
end Go.Proofs.Ytlfligjpmodefaa
