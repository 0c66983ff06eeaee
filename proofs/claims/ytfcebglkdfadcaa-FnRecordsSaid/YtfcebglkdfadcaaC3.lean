/- The walks, printed by program: whenever the model gives r, the call returns r. Part 3. -/
import Derived.Test.YtfcebglkdfadcaaM
import Derived.Test.YtfcebglkdfadcaaGxZ
import Derived.Test.YtfcebglkdfadcaaProg
import Derived.Test.YtfcebglkdfadcaaSh
import Derived.Test.YtfcebglkdfadcaaC2
set_option linter.unusedVariables false
set_option maxRecDepth 100000
set_option maxHeartbeats 4000000
namespace Go.Proofs.Ytfcebglkdfadcaa
open Go.Gx
theorem c_slices_Concat_83 (w : World) (b : List (List Event)) (c : Option Addr) (d : Nat) (L : rdD (deepL encEvent) w b c d) {r : (List Event)} (hm : M.slices_Concat_83 b = some r) :
  Calls Try.prog 83 #[.slice c b.length d] w fun e w' => ∃ (T : Option Addr) (K : Nat) (V : Seg), e = .returned (.slice T r.length K) ∧ ownS encEvent r T K V ∧ Mem [] w w' [V] := by
 unfold M.slices_Concat_83 at hm
 refine cE Try.func83 ?_
 have M0 := Mem.refl [] w
 refine G_seq (G_region (wR 1 [(0, .slice c b.length d)] w (W_nil (N_then (G_seq (G_region (wR 1 [(0, .slice c b.length d), (3, iv 0)] w (W_nil (N_then (G_seq (G_seq (G_region (wR 3 [(0, .slice c b.length d), (3, iv 0), (9, .slice c b.length d), (10, iv (b.length : Int)), (11, iv 0)] w (W_nil (N_then ?_)))))))))))))))
 obtain ⟨v, au, ak⟩ := gx_bind hm
 refine G_meet (fun a w' => Mem [] w w' [] ∧ Sat Try.f83.ntmps [(0, .slice c b.length d), (3, iv v)] a) ?_ ?_
 ·refine G_block (G_while (σ := Int × Int) (ρ := Int) (fun f a w' => Mem [] w w' [] ∧ Sat Try.f83.ntmps [(0, .slice c b.length d), (3, iv f.1), (9, .slice c b.length d), (10, iv (b.length : Int)), (11, iv f.2)] a) au (fun a ha => ⟨M0.pk [], ha.s⟩) ?_)
  clear hm
  intro f a8 hm ap a3 k ⟨t, ae⟩
  refine G_use ae (G_seq (G_region (wR 1 [(0, .slice c b.length d), (3, iv f.1), (9, .slice c b.length d), (10, iv (b.length : Int)), (11, iv f.2), (12, .bool (decide (f.2 < (b.length : Int))))] k (W_nil (N_then (G_seq ?_))))))
  rcases gx_bif hm with ⟨D, hm⟩ | ⟨D, hm⟩
  ·refine gT D (G_skip (N_then (G_seq (G_block (G_seq (G_region ?_))))))
   obtain ⟨n, aw, hm⟩ := gx_bind hm
   obtain ⟨ba, R, P, a7⟩ := id L
   obtain ⟨u, N⟩ := gxIdx_fst R aw
   refine wV (elemP c (f.2.toNat * 1)) k (eI (P.mem0 t) (len_fst R) N) (wV (.slice ((u 0).1) n.length ((u 0).2)) k (eE false 1 0 (f.2.toNat * 1) (P.mem0 t) N) (wR 1 [(0, .slice c b.length d), (3, iv f.1), (5, .slice ((u 0).1) n.length ((u 0).2)), (9, .slice c b.length d), (10, iv (b.length : Int)), (11, iv f.2)] k (W_nil (N_then (G_seq (G_region (wR 5 [(0, .slice c b.length d), (3, iv (w64 (f.1 + (n.length : Int)))), (9, .slice c b.length d), (10, iv (b.length : Int)), (11, iv f.2)] k (W_nil (N_then (G_seq (G_region (wR 2 [(0, .slice c b.length d), (3, iv (w64 (f.1 + (n.length : Int)))), (9, .slice c b.length d), (10, iv (b.length : Int)), (11, iv f.2), (20, .bool (decide ((w64 (f.1 + (n.length : Int))) < 0)))] k (W_nil (N_then ?_))))))))))))))
   rcases gx_bif hm with ⟨E, hm⟩ | ⟨E, hm⟩
   ·refine gT E ?_
    cases hm
   refine gF E (G_skip (N_block (N_then (G_region (wR 2 [(0, .slice c b.length d), (3, iv (w64 (f.1 + (n.length : Int)))), (9, .slice c b.length d), (10, iv (b.length : Int)), (11, iv (w64 (f.2 + 1)))] k (W_nil ?_))))))
   obtain rfl := Option.some.inj hm
   exact N_loop fun a ha => ⟨_, rfl, t.pk [], ha.s⟩
  refine gF D (G_exit (N_then_exit (N_then_exit (N_block_eq ?_))))
  obtain rfl := Option.some.inj hm
  obtain rfl := ap _ rfl
  exact N_meet fun a ha => ⟨t.pk [], ha.s⟩
 intro a4 W ⟨aa, af⟩
 refine N_use af ?_
 have hm := ak
 refine N_then (G_seq (G_region (wR 1 [(0, .slice c b.length d), (23, iv v)] W ?_)))
 obtain ⟨U, ar, hm⟩ := gx_bind hm
 refine wC 91 #[.slice none 0 0, iv v] ((c_slices_Grow_91__n0 W v ar).mono ?_)
 rintro e_ X ⟨H, B, ay, rfl, am, Z⟩
 have ab := aa.call Z
 refine ⟨_, rfl, ?_⟩
 refine wR 1 [(0, .slice c b.length d), (6, .slice H U.length B)] X (W_nil (N_then (G_seq (G_seq (G_region (wR 3 [(6, .slice H U.length B), (25, .slice c b.length d), (26, iv (b.length : Int)), (27, iv 0)] X (W_nil (N_then ?_))))))))
 obtain ⟨x, av, al⟩ := gx_bind hm
 refine G_meet (fun a w' => ∃ (m : Option Addr), ∃ (l : Nat), ∃ (z : Seg), ownS encEvent x m l z ∧ Mem [] w w' [z] ∧ Sat Try.f83.ntmps [(6, .slice m x.length l)] a) ?_ ?_
 ·refine G_block (G_while (σ := List Event × Int) (ρ := List Event) (fun g a w' => ∃ (j : Option Addr), ∃ (h : Nat), ∃ (y : Seg), ownS encEvent g.1 j h y ∧ Mem [] w w' [y] ∧ Sat Try.f83.ntmps [(6, .slice j g.1.length h), (25, .slice c b.length d), (26, iv (b.length : Int)), (27, iv g.2)] a) av (fun a ha => ⟨H, B, ay, am, ab.pk [0], ha.s⟩) ?_)
  clear hm
  intro g a9 hm aq a5 q ⟨j, h, y, O, o, ag⟩
  refine G_use ag (G_seq (G_region (wR 1 [(6, .slice j g.1.length h), (25, .slice c b.length d), (26, iv (b.length : Int)), (27, iv g.2), (28, .bool (decide (g.2 < (b.length : Int))))] q (W_nil (N_then (G_seq ?_))))))
  rcases gx_bif hm with ⟨F, hm⟩ | ⟨F, hm⟩
  ·refine gT F (G_skip (N_then (G_seq (G_block (G_seq (G_region ?_))))))
   obtain ⟨A, ax, hm⟩ := gx_bind hm
   obtain ⟨bb, S, Q, aj⟩ := id L
   obtain ⟨i, G⟩ := gxIdx_fst S ax
   refine wV (elemP c (g.2.toNat * 1)) q (eI (Q.mem0 o) (len_fst S) G) (wV (.slice ((i 0).1) A.length ((i 0).2)) q (eE false 1 0 (g.2.toNat * 1) (Q.mem0 o) G) (wR 1 [(6, .slice j g.1.length h), (8, .slice ((i 0).1) A.length ((i 0).2)), (25, .slice c b.length d), (26, iv (b.length : Int)), (27, iv g.2)] q (W_nil (N_then (G_region (wR 2 [(6, .slice j g.1.length h), (25, .slice c b.length d), (26, iv (b.length : Int)), (27, iv g.2), (31, .slice j g.1.length h), (32, .slice ((i 0).1) A.length ((i 0).2))] q ?_))))))
   obtain ⟨J, ai, hm⟩ := gx_bind hm
   refine wA 40 [iv 0, iv 0, .string ByteArray.empty, iv 0] 0 o O ((aj.mem0 o).at_ G 0 ⟨Event, encEvent, A, (i 0).1, (i 0).2⟩ (by kernel_rfl)) ai ?_
   intro I C az Y ao ac
   refine wR 1 [(6, .slice I J.length C), (25, .slice c b.length d), (26, iv (b.length : Int)), (27, iv g.2)] Y (W_nil (N_block (N_then (G_region (wR 2 [(6, .slice I J.length C), (25, .slice c b.length d), (26, iv (b.length : Int)), (27, iv (w64 (g.2 + 1)))] Y (W_nil ?_))))))
   obtain rfl := Option.some.inj hm
   exact N_loop fun a ha => ⟨_, rfl, I, C, az, ao, ac.pk [0], ha.s⟩
  refine gF F (G_exit (N_then_exit (N_then_exit (N_block_eq ?_))))
  obtain rfl := Option.some.inj hm
  obtain rfl := aq _ rfl
  exact N_meet fun a ha => ⟨j, h, y, O, o.pk [0], ha.s⟩
 intro a6 a0 ⟨m, l, z, an, ad, ah⟩
 refine N_use ah ?_
 have hm := al
 refine N_then (G_seq (G_region (wR 2 [(2, .slice m x.length l)] a0 (W_nil (N_then (G_ret ?_))))))
 obtain rfl := Option.some.inj hm
 exact N_ret [.slice m x.length l] (rC RVs_nil) (⟨m, l, z, rfl, an, ad.pk [0]⟩)
theorem c_cmp_isNaN_93 (w : World) (a : Int) {r : Bool} (hm : M.cmp_isNaN_93 a = some r) :
  Calls Try.prog 93 #[iv a] w fun e w' => e = .returned (.bool r) ∧ Mem [] w w' [] := by
 unfold M.cmp_isNaN_93 at hm
 refine cE Try.func93 ?_
 have M0 := Mem.refl [] w
 refine G_seq (G_region (wR 1 [(0, iv a)] w (W_nil (N_then (G_seq (G_region (wR 4 [(2, .bool (a != a))] w (W_nil (N_then (G_ret ?_))))))))))
 obtain rfl := Option.some.inj hm
 exact N_ret [.bool (a != a)] (rC RVs_nil) (⟨rfl, M0.pk []⟩)
theorem c_cmp_Compare_86 (w : World) (a : Int) (b : Int) {r : Int} (hm : M.cmp_Compare_86 a b = some r) :
  Calls Try.prog 86 #[iv a, iv b] w fun e w' => e = .returned (iv r) ∧ Mem [] w w' [] := by
 unfold M.cmp_Compare_86 at hm
 refine cE Try.func86 ?_
 have M0 := Mem.refl [] w
 refine G_seq (G_region (wR 1 [(0, iv a), (1, iv b)] w (W_nil (N_then (G_seq (G_region (wR 1 [(0, iv a), (1, iv b), (7, iv a)] w ?_)))))))
 obtain ⟨f, t, hm⟩ := gx_bind hm
 refine wC 93 #[iv a] ((c_cmp_isNaN_93 w a t).mono ?_)
 rintro e_ m ⟨rfl, n⟩
 have q := M0.call0 n
 refine ⟨_, rfl, ?_⟩
 refine wR 1 [(0, iv a), (1, iv b), (5, .bool f)] m (W_nil (N_then (G_seq (G_region (wR 1 [(0, iv a), (1, iv b), (5, .bool f), (9, iv b)] m ?_)))))
 obtain ⟨g, u, hm⟩ := gx_bind hm
 refine wC 93 #[iv b] ((c_cmp_isNaN_93 m b u).mono ?_)
 rintro e_ c ⟨rfl, o⟩
 have d := q.call0 o
 refine ⟨_, rfl, ?_⟩
 refine wR 1 [(0, iv a), (1, iv b), (5, .bool f), (6, .bool g)] c (W_nil (N_then (G_seq (G_seq (G_region (wR 1 [(0, iv a), (1, iv b), (6, .bool g), (11, .bool f)] c (W_nil (N_then ?_))))))))
 rcases gx_bif hm with ⟨h, hm⟩ | ⟨h, hm⟩
 ·refine gT h (G_seq (G_seq (G_region (wR 1 [(12, .bool g)] c (W_nil (N_then ?_))))))
  rcases gx_bif hm with ⟨i, hm⟩ | ⟨i, hm⟩
  ·refine gT i (G_seq (G_region (wR 1 [(4, iv 0)] c (W_nil (N_then (G_ret (N_then_ret (N_then_ret ?_))))))))
   obtain rfl := Option.some.inj hm
   exact N_ret [iv 0] (rC RVs_nil) (⟨rfl, d.pk []⟩)
  refine gF i (G_skip (N_then (G_seq (G_region (wR 1 [(4, iv (-1))] c (W_nil (N_then (G_ret (N_then_ret ?_)))))))))
  obtain rfl := Option.some.inj hm
  exact N_ret [iv (-1)] (rC RVs_nil) (⟨rfl, d.pk []⟩)
 refine gF h (G_skip (N_then (G_seq (G_seq (G_region (wR 1 [(0, iv a), (1, iv b), (13, .bool g)] c (W_nil (N_then ?_))))))))
 rcases gx_bif hm with ⟨j, hm⟩ | ⟨j, hm⟩
 ·refine gT j (G_seq (G_region (wR 1 [(4, iv 1)] c (W_nil (N_then (G_ret (N_then_ret ?_)))))))
  obtain rfl := Option.some.inj hm
  exact N_ret [iv 1] (rC RVs_nil) (⟨rfl, d.pk []⟩)
 refine gF j (G_skip (N_then (G_seq (G_seq (G_region (wR 3 [(0, iv a), (1, iv b), (16, .bool (decide (a < b)))] c (W_nil (N_then ?_))))))))
 rcases gx_bif hm with ⟨k, hm⟩ | ⟨k, hm⟩
 ·refine gT k (G_seq (G_region (wR 1 [(4, iv (-1))] c (W_nil (N_then (G_ret (N_then_ret ?_)))))))
  obtain rfl := Option.some.inj hm
  exact N_ret [iv (-1)] (rC RVs_nil) (⟨rfl, d.pk []⟩)
 refine gF k (G_skip (N_then (G_seq (G_seq (G_region (wR 3 [(19, .bool (decide (a > b)))] c (W_nil (N_then ?_))))))))
 rcases gx_bif hm with ⟨l, hm⟩ | ⟨l, hm⟩
 ·refine gT l (G_seq (G_region (wR 1 [(4, iv 1)] c (W_nil (N_then (G_ret (N_then_ret ?_)))))))
  obtain rfl := Option.some.inj hm
  exact N_ret [iv 1] (rC RVs_nil) (⟨rfl, d.pk []⟩)
 refine gF l (G_skip (N_then (G_seq (G_region (wR 1 [(4, iv 0)] c (W_nil (N_then (G_ret ?_))))))))
 obtain rfl := Option.some.inj hm
 exact N_ret [iv 0] (rC RVs_nil) (⟨rfl, d.pk []⟩)
theorem c_i_merged_1 (w : World) (a : Event) (b : Event) {r : Int} (hm : M.i_merged_1 a b = some r) :
  Calls Try.prog 85 #[.agg #[iv a.Tick, iv a.Guest, .string a.Kind, iv a.Value], .agg #[iv b.Tick, iv b.Guest, .string b.Kind, iv b.Value]] w fun e w' => e = .returned (iv r) ∧ Mem [] w w' [] := by
 unfold M.i_merged_1 at hm
 refine cE Try.func85 ?_
 have M0 := Mem.refl [] w
 refine G_seq (G_region (wN (.cells ⟨[iv a.Tick, iv a.Guest, .string a.Kind, iv a.Value]⟩ 26 (0, 0)) M0 ?_))
 intro g n j
 refine wN (.cells ⟨[iv b.Tick, iv b.Guest, .string b.Kind, iv b.Value]⟩ 26 (0, 0)) j ?_
 intro f c d
 refine wR 1 [(2, pB g 0), (3, pB f 0)] c (W_nil (N_then (G_seq (G_region (wR 1 [(3, pB f 0), (5, pB g 0)] c (wV (iv a.Tick) c (eL false 1 0 (d.blk 0 rfl)) (wR 1 [(6, iv a.Tick), (7, pB f 0)] c (wV (iv b.Tick) c (eL false 1 0 (d.blk 1 rfl)) ?_))))))))
 obtain ⟨h, l, hm⟩ := gx_bind hm
 refine wC 86 #[iv a.Tick, iv b.Tick] ((c_cmp_Compare_86 c a.Tick b.Tick l).mono ?_)
 rintro e_ m ⟨rfl, i⟩
 have k := d.call0 i
 refine ⟨_, rfl, ?_⟩
 refine wR 1 [(4, iv h)] m (W_nil (N_then (G_ret ?_)))
 obtain rfl := Option.some.inj hm
 exact N_ret [iv h] (rC RVs_nil) (⟨rfl, k.pk []⟩)
theorem c_slices_insertionSortCmpFunc_105__i_merged_1 (w : World) (z : List Event) (c : Option Addr) (d : Nat) (u : Seg) (bh : ownS encEvent z c d u) (m : Int) (n : Int) (hA : ∀ q ∈ List.flatten [u], w.heap[q.1]? = some q.2) (hN : (idsOf [u]).Nodup) {r : (List Event)} (hm : M.slices_insertionSortCmpFunc_105__i_merged_1 z m n = some r) :
  Calls Try.prog 105 #[.slice c z.length d, iv m, iv n, .func (.func 85) #[] #[]] w fun e w' => ∃ (ag : Seg), e = .returned (.tuple #[]) ∧ ownS encEvent r c d ag ∧ r.length = z.length ∧ Mem (idsOf [u]) w w' [ag] := by
 unfold M.slices_insertionSortCmpFunc_105__i_merged_1 at hm
 refine cE Try.func105 ?_
 have M0 := Mem.start' w [u] hA hN
 refine G_seq (G_region (wR 3 [(0, .slice c z.length d), (1, iv m), (2, iv n), (3, .func (.func 85) #[] #[]), (8, iv (w64 (m + 1)))] w (W_nil (N_then ?_))))
 obtain ⟨af, bq, bf⟩ := gx_bind hm
 refine G_meet (fun a w' => ∃ (F : Seg), ownS encEvent af c d F ∧ af.length = z.length ∧ Mem (idsOf [u]) w w' [F] ∧ Sat Try.f105.ntmps [] a) ?_ ?_
 ·refine G_block (G_while (σ := Int × List Event) (ρ := List Event) (fun l a w' => ∃ (C : Seg), ownS encEvent l.2 c d C ∧ l.2.length = z.length ∧ Mem (idsOf [u]) w w' [C] ∧ Sat Try.f105.ntmps [(0, .slice c l.2.length d), (1, iv m), (2, iv n), (3, .func (.func 85) #[] #[]), (8, iv l.1)] a) bq (fun a ha => ⟨u, bh, rfl, M0.pk [0], ha.s⟩) ?_)
  clear hm
  intro l cq hm bn cf ah ⟨C, W, U, K, a7⟩
  refine G_use a7 (G_seq (G_seq (G_region (wR 3 [(0, .slice c l.2.length d), (1, iv m), (2, iv n), (3, .func (.func 85) #[] #[]), (8, iv l.1), (14, .bool (decide (l.1 < n)))] ah (W_nil (N_then ?_))))))
  rcases gx_bif hm with ⟨H, hm⟩ | ⟨H, hm⟩
  ·refine gT H (G_skip (N_then (G_seq (G_block (G_seq (G_region (wR 2 [(0, .slice c l.2.length d), (1, iv m), (2, iv n), (3, .func (.func 85) #[] #[]), (8, iv l.1), (9, iv l.1)] ah (W_nil (N_then ?_)))))))))
   obtain ⟨D, br, bg⟩ := gx_bind hm
   refine G_meet (fun a w' => ∃ (G : Seg), ownS encEvent D c d G ∧ D.length = z.length ∧ Mem (idsOf [u]) w w' [G] ∧ Sat Try.f105.ntmps [(0, .slice c D.length d), (1, iv m), (2, iv n), (3, .func (.func 85) #[] #[]), (8, iv l.1)] a) ?_ ?_
   ·refine G_block (G_while (σ := Int × List Event) (ρ := List Event) (fun b a w' => ∃ (B : Seg), ownS encEvent b.2 c d B ∧ b.2.length = z.length ∧ Mem (idsOf [u]) w w' [B] ∧ Sat Try.f105.ntmps [(0, .slice c b.2.length d), (1, iv m), (2, iv n), (3, .func (.func 85) #[] #[]), (8, iv l.1), (9, iv b.1)] a) br (fun a ha => ⟨C, W, U, K.pk [0], ha.s⟩) ?_)
    clear hm
    intro b cr hm bo cg ck ⟨B, y, V, aj, a8⟩
    refine G_use a8 (G_seq (G_seq ?_))
    obtain ⟨ae, bk, be⟩ := gx_bind hm
    refine G_meet (fun a w' => Mem (idsOf [u]) w w' [B] ∧ Sat Try.f105.ntmps [(0, .slice c b.2.length d), (1, iv m), (2, iv n), (3, .func (.func 85) #[] #[]), (8, iv l.1), (9, iv b.1), (34, .bool ae)] a) ?_ ?_
    ·have hm := bk
     refine G_quiet (by kernel_rfl) (by kernel_rfl) aj (zR [iv b.1, iv m, .bool (decide (b.1 > m)), .bool (decide (b.1 > m))] [(0, .slice c b.2.length d), (1, iv m), (2, iv n), (3, .func (.func 85) #[] #[]), (8, iv l.1), (9, iv b.1), (21, .bool (decide (b.1 > m)))] ?_)
     rcases gx_bif hm with ⟨I, hm⟩ | ⟨I, hm⟩
     ·refine zK 21 true I (zR [.func (.func 85) #[] #[], .slice c b.2.length d, iv b.1] [(0, .slice c b.2.length d), (1, iv m), (2, iv n), (3, .func (.func 85) #[] #[]), (8, iv l.1), (9, iv b.1), (21, .bool true), (22, .func (.func 85) #[] #[]), (23, .slice c b.2.length d), (24, iv b.1)] ?_)
      obtain ⟨x, Y, hm⟩ := gx_bind hm
      refine zV (elemP c (b.1.toNat * 4)) (fun w_ M_ => (eI (y.rd M_ 0 (by kernel_rfl)) rfl Y)) (zV (.agg #[iv x.Tick, iv x.Guest, .string x.Kind, iv x.Value]) (fun w_ M_ => (eE true 4 0 (b.1.toNat * 4) (y.rd M_ 0 (by kernel_rfl)) Y)) (zR [.slice c b.2.length d, iv b.1, iv (w64 (b.1 - 1))] [(0, .slice c b.2.length d), (1, iv m), (2, iv n), (3, .func (.func 85) #[] #[]), (8, iv l.1), (9, iv b.1), (21, .bool true), (22, .func (.func 85) #[] #[]), (26, .agg #[iv x.Tick, iv x.Guest, .string x.Kind, iv x.Value]), (27, .slice c b.2.length d), (29, iv (w64 (b.1 - 1)))] ?_))
      obtain ⟨A, Z, hm⟩ := gx_bind hm
      refine zV (elemP c ((w64 (b.1 - 1)).toNat * 4)) (fun w_ M_ => (eI (y.rd M_ 0 (by kernel_rfl)) rfl Z)) (zV (.agg #[iv A.Tick, iv A.Guest, .string A.Kind, iv A.Value]) (fun w_ M_ => (eE true 4 0 ((w64 (b.1 - 1)).toNat * 4) (y.rd M_ 0 (by kernel_rfl)) Z)) ?_)
      obtain ⟨E, bp, hm⟩ := gx_bind hm
      refine Z_call 85 #[.agg #[iv x.Tick, iv x.Guest, .string x.Kind, iv x.Value], .agg #[iv A.Tick, iv A.Guest, .string A.Kind, iv A.Value]] (iv E) (by kernel_rfl) (fun w_ => by kernel_rfl) (fun w_ M_ => (c_i_merged_1 w_ x A bp).mono fun e w2_ h_ => ⟨h_.1, M_.call0 h_.2⟩) (zR [.bool (decide (E < 0)), .bool (decide (E < 0))] [(0, .slice c b.2.length d), (1, iv m), (2, iv n), (3, .func (.func 85) #[] #[]), (8, iv l.1), (9, iv b.1), (34, .bool (decide (E < 0)))] (Z_end fun cl ak => ?_))
      obtain rfl := Option.some.inj hm
      exact N_meet fun a ha => ⟨ak.pk [0], ha.s⟩
     refine zK 21 false I (zR [undef, undef, undef, undef, undef, undef, undef, undef, undef, undef, undef, undef, .bool false] [(0, .slice c b.2.length d), (1, iv m), (2, iv n), (3, .func (.func 85) #[] #[]), (8, iv l.1), (9, iv b.1), (34, .bool false)] (Z_end fun cm al => ?_))
     obtain rfl := Option.some.inj hm
     exact N_meet fun a ha => ⟨al.pk [0], ha.s⟩
    intro ch bu ⟨L, a9⟩
    refine N_use a9 ?_
    have hm := be
    refine N_then ?_
    rcases gx_bif hm with ⟨J, hm⟩ | ⟨J, hm⟩
    ·refine gT J (G_skip (N_then (G_seq (G_block ?_))))
     obtain ⟨g, aa, hm⟩ := gx_bind hm
     obtain ⟨k, ab, hm⟩ := gx_bind hm
     obtain ⟨cd, ac, hm⟩ := gx_bind hm
     have am : Mem (idsOf [u]) w bu ([] ++ (List.range 16).map (fun i => ([[], [], [], [], [], [], [], [], [], [], [], [], [], [], [], B] : List Seg).getD i [])) := L.pk [300000, 300001, 300002, 300003, 300004, 300005, 300006, 300007, 300008, 300009, 300010, 300011, 300012, 300013, 300014, 0]
     refine G_sub [(0, .slice c b.2.length d), (1, iv m), (2, iv n), (3, .func (.func 85) #[] #[]), (8, iv l.1), (9, iv b.1), (34, .bool ae)] (by kernel_rfl) (G_dagL 16 [[], [], [], [], [3], [], [], [6], [5, 7], [8], [], [], [10, 11], [12], [0, 1], [9, 14]] [[], [], [], [], [], [], [], [], [], [], [], [], [], [], [], []] [[], [], [], [], [], [], [], [], [], [], [], [], [], [], [], []] [[], [], [], [], [], [], [], [], [], [], [], [], [], [], [], []] [[], [], [], [], [], [], [], [], [], [], [], [], [], [], [], []] [[], [], [], [], [], [], [], [], [15], [15], [], [], [15], [15], [15], []] (fun i => ([[], [], [], [], [], [], [], [], [], [], [], [], [], [], [], B] : List Seg).getD i []) (fun i => ([fun f v s => v = (.slice c b.2.length d : Value) ∧ s = [], fun f v s => v = (iv b.1 : Value) ∧ s = [], fun f v s => v = (.slice c b.2.length d : Value) ∧ s = [], fun f v s => v = (iv b.1 : Value) ∧ s = [], fun f v s => v = (iv (w64 (b.1 - 1)) : Value) ∧ s = [], fun f v s => v = (.slice c b.2.length d : Value) ∧ s = [], fun f v s => v = (iv b.1 : Value) ∧ s = [], fun f v s => v = (iv (w64 (b.1 - 1)) : Value) ∧ s = [], fun f v s => v = (elemP c ((w64 (b.1 - 1)).toNat * 4) : Value) ∧ s = [], fun f v s => v = (.agg #[iv g.Tick, iv g.Guest, .string g.Kind, iv g.Value] : Value) ∧ s = [], fun f v s => v = (.slice c b.2.length d : Value) ∧ s = [], fun f v s => v = (iv b.1 : Value) ∧ s = [], fun f v s => v = (elemP c (b.1.toNat * 4) : Value) ∧ s = [], fun f v s => v = (.agg #[iv k.Tick, iv k.Guest, .string k.Kind, iv k.Value] : Value) ∧ s = [], fun f v s => v = (elemP c (b.1.toNat * 4) : Value) ∧ s = [], fun f v s => v = undef ∧ ownS encEvent (b.2.set b.1.toNat g) c d s] : List ((Nat → Value) → Value → Seg → Prop)).getD i (fun _ _ _ => False)) (fun j f v => ∃ s, (fun i => ([fun f v s => v = (.slice c b.2.length d : Value) ∧ s = [], fun f v s => v = (iv b.1 : Value) ∧ s = [], fun f v s => v = (.slice c b.2.length d : Value) ∧ s = [], fun f v s => v = (iv b.1 : Value) ∧ s = [], fun f v s => v = (iv (w64 (b.1 - 1)) : Value) ∧ s = [], fun f v s => v = (.slice c b.2.length d : Value) ∧ s = [], fun f v s => v = (iv b.1 : Value) ∧ s = [], fun f v s => v = (iv (w64 (b.1 - 1)) : Value) ∧ s = [], fun f v s => v = (elemP c ((w64 (b.1 - 1)).toNat * 4) : Value) ∧ s = [], fun f v s => v = (.agg #[iv g.Tick, iv g.Guest, .string g.Kind, iv g.Value] : Value) ∧ s = [], fun f v s => v = (.slice c b.2.length d : Value) ∧ s = [], fun f v s => v = (iv b.1 : Value) ∧ s = [], fun f v s => v = (elemP c (b.1.toNat * 4) : Value) ∧ s = [], fun f v s => v = (.agg #[iv k.Tick, iv k.Guest, .string k.Kind, iv k.Value] : Value) ∧ s = [], fun f v s => v = (elemP c (b.1.toNat * 4) : Value) ∧ s = [], fun f v s => v = undef ∧ ownS encEvent (b.2.set b.1.toNat g) c d s] : List ((Nat → Value) → Value → Seg → Prop)).getD i (fun _ _ _ => False)) j f v s) [] [2, 4, 13, 15] [15] (fun _ _ _ s h => ⟨s, h⟩) (by kernel_rfl) (by kernel_rfl) am (by kernel_rfl) (by kernel_rfl) (by kernel_rfl) (by kernel_rfl) (allOb_cons ?_ (allOb_cons ?_ (allOb_cons ?_ (allOb_cons ?_ (allOb_cons ?_ (allOb_cons ?_ (allOb_cons ?_ (allOb_cons ?_ (allOb_cons ?_ (allOb_cons ?_ (allOb_cons ?_ (allOb_cons ?_ (allOb_cons ?_ (allOb_cons ?_ (allOb_cons ?_ (allOb_cons ?_ allOb_nil)))))))))))))))) ?_)
     ·intro o t
      intro R bv an
      exact wR 1 [(37, .slice c b.2.length d)] bv (W_nil (oE (.slice c b.2.length d) [] ⟨by kernel_rfl, rfl⟩ an))
     ·intro o t
      intro R bw ao
      exact wR 1 [(38, iv b.1)] bw (W_nil (oE (iv b.1) [] ⟨by kernel_rfl, rfl⟩ ao))
     ·intro o t
      intro R bx ap
      exact wR 1 [(39, .slice c b.2.length d)] bx (W_nil (oE (.slice c b.2.length d) [] ⟨by kernel_rfl, rfl⟩ ap))
     ·intro o t
      intro R bz aq
      exact wR 1 [(40, iv b.1)] bz (W_nil (oE (iv b.1) [] ⟨by kernel_rfl, rfl⟩ aq))
     ·intro o t
      intro v3_ hb3_
      obtain ⟨rfl, _⟩ := hb3_
      intro R b0 ar
      exact wR 1 [(41, iv (w64 (b.1 - 1)))] b0 (W_nil (oE (iv (w64 (b.1 - 1))) [] ⟨by kernel_rfl, rfl⟩ ar))
     ·intro o t
      intro R b1 au
      exact wR 1 [(42, .slice c b.2.length d)] b1 (W_nil (oE (.slice c b.2.length d) [] ⟨by kernel_rfl, rfl⟩ au))
     ·intro o t
      intro R b2 av
      exact wR 1 [(43, iv b.1)] b2 (W_nil (oE (iv b.1) [] ⟨by kernel_rfl, rfl⟩ av))
     ·intro o t
      intro v6_ hb6_
      obtain ⟨rfl, _⟩ := hb6_
      intro R b3 aw
      exact wR 1 [(44, iv (w64 (b.1 - 1)))] b3 (W_nil (oE (iv (w64 (b.1 - 1))) [] ⟨by kernel_rfl, rfl⟩ aw))
     ·intro o t
      intro v5_ hb5_
      obtain ⟨rfl, _⟩ := hb5_
      intro v7_ hb7_
      obtain ⟨rfl, _⟩ := hb7_
      intro R b4 N
      exact wV (elemP c ((w64 (b.1 - 1)).toNat * 4)) b4 (eI (y.rd N 1 (by kernel_rfl)) rfl aa) (W_nil (oE (elemP c ((w64 (b.1 - 1)).toNat * 4)) [] ⟨by kernel_rfl, rfl⟩ N))
     ·intro o t
      intro v8_ hb8_
      obtain ⟨rfl, _⟩ := hb8_
      intro R b5 O
      exact wV (.agg #[iv g.Tick, iv g.Guest, .string g.Kind, iv g.Value]) b5 (eE true 4 0 ((w64 (b.1 - 1)).toNat * 4) (y.rd O 1 (by kernel_rfl)) aa) (W_nil (oE (.agg #[iv g.Tick, iv g.Guest, .string g.Kind, iv g.Value]) [] ⟨by kernel_rfl, rfl⟩ O))
     ·intro o t
      intro R b6 ax
      exact wR 1 [(47, .slice c b.2.length d)] b6 (W_nil (oE (.slice c b.2.length d) [] ⟨by kernel_rfl, rfl⟩ ax))
     ·intro o t
      intro R b7 ay
      exact wR 1 [(48, iv b.1)] b7 (W_nil (oE (iv b.1) [] ⟨by kernel_rfl, rfl⟩ ay))
     ·intro o t
      intro v10_ hb10_
      obtain ⟨rfl, _⟩ := hb10_
      intro v11_ hb11_
      obtain ⟨rfl, _⟩ := hb11_
      intro R b8 P
      exact wV (elemP c (b.1.toNat * 4)) b8 (eI (y.rd P 1 (by kernel_rfl)) rfl ab) (W_nil (oE (elemP c (b.1.toNat * 4)) [] ⟨by kernel_rfl, rfl⟩ P))
     ·intro o t
      intro v12_ hb12_
      obtain ⟨rfl, _⟩ := hb12_
      intro R b9 Q
      exact wV (.agg #[iv k.Tick, iv k.Guest, .string k.Kind, iv k.Value]) b9 (eE true 4 0 (b.1.toNat * 4) (y.rd Q 1 (by kernel_rfl)) ab) (W_nil (oE (.agg #[iv k.Tick, iv k.Guest, .string k.Kind, iv k.Value]) [] ⟨by kernel_rfl, rfl⟩ Q))
     ·intro o t
      intro v0_ hb0_
      obtain ⟨rfl, _⟩ := hb0_
      intro v1_ hb1_
      obtain ⟨rfl, _⟩ := hb1_
      intro R ca S
      exact wV (elemP c (b.1.toNat * 4)) ca (eI (y.rd S 1 (by kernel_rfl)) rfl ac) (W_nil (oE (elemP c (b.1.toNat * 4)) [] ⟨by kernel_rfl, rfl⟩ S))
     ·intro o t
      intro v9_ hb9_
      obtain ⟨rfl, _⟩ := hb9_
      intro v14_ hb14_
      obtain ⟨rfl, _⟩ := hb14_
      intro R cn az
      refine wE true 4 b.1.toNat 0 (b.1.toNat * 4) cd g (.agg #[iv g.Tick, iv g.Guest, .string g.Kind, iv g.Value]) 0 az y (gxIdx_spec ac).2 ?_
      intro co bs bl a0
      exact W_nil (ob_none bs rfl ⟨rfl, bl⟩ a0)
     intro o t
     intro v2_ hb2_
     obtain ⟨rfl, _⟩ := hb2_
     intro v4_ hb4_
     obtain ⟨rfl, _⟩ := hb4_
     intro v13_ hb13_
     obtain ⟨rfl, _⟩ := hb13_
     intro v15_ hb15_
     obtain ⟨rfl, X⟩ := hb15_
     intro ai a3
     have T : Mem (idsOf [u]) w ai [(o 15)] := a3
     refine wX 0 (.slice c b.2.length d) (.slice c (b.2.set b.1.toNat g).length d) (by rw [@List.length_set _ b.2 b.1.toNat g]) (wX 39 (.slice c b.2.length d) (.slice c (b.2.set b.1.toNat g).length d) (by rw [@List.length_set _ b.2 b.1.toNat g]) ?_)
     obtain ⟨ce, ad, hm⟩ := gx_bind hm
     refine wV (elemP c ((w64 (b.1 - 1)).toNat * 4)) ai (eI (X.rd T 0 (by kernel_rfl)) rfl ad) (wE true 4 (w64 (b.1 - 1)).toNat 0 ((w64 (b.1 - 1)).toNat * 4) ce k (.agg #[iv k.Tick, iv k.Guest, .string k.Kind, iv k.Value]) 0 T X (gxIdx_spec ad).2 ?_)
     intro cb bt bm a4
     refine wX 0 (.slice c (b.2.set b.1.toNat g).length d) (.slice c ((b.2.set b.1.toNat g).set (w64 (b.1 - 1)).toNat k).length d) (by rw [@List.length_set _ (b.2.set b.1.toNat g) ((w64 (b.1 - 1)).toNat) k]) (wX 39 (.slice c (b.2.set b.1.toNat g).length d) (.slice c ((b.2.set b.1.toNat g).set (w64 (b.1 - 1)).toNat k).length d) (by rw [@List.length_set _ (b.2.set b.1.toNat g) ((w64 (b.1 - 1)).toNat) k]) (W_nil (N_block (N_then (G_region (wR 3 [(0, .slice c ((b.2.set b.1.toNat g).set (w64 (b.1 - 1)).toNat k).length d), (1, iv m), (2, iv n), (3, .func (.func 85) #[] #[]), (8, iv l.1), (9, iv (w64 (b.1 - 1)))] cb (W_nil ?_)))))))
     obtain rfl := Option.some.inj hm
     exact N_loop fun a ha => ⟨_, rfl, bt, bm, (List.length_set.trans (List.length_set.trans V)), a4.pk [0], ha.s⟩
    refine gF J (G_exit (N_then_exit (N_then_exit (N_block_eq ?_))))
    obtain rfl := Option.some.inj hm
    obtain rfl := bo _ rfl
    exact N_meet fun a ha => ⟨B, y, V, L.pk [0], ha.s⟩
   intro ci cc ⟨G, bj, bd, a5, ba⟩
   refine N_use ba ?_
   have hm := bg
   refine N_block (N_then (G_region (wR 3 [(0, .slice c D.length d), (1, iv m), (2, iv n), (3, .func (.func 85) #[] #[]), (8, iv (w64 (l.1 + 1)))] cc (W_nil ?_))))
   obtain rfl := Option.some.inj hm
   exact N_loop fun a ha => ⟨_, rfl, G, bj, bd, a5.pk [0], ha.s⟩
  refine gF H (G_exit (N_then_exit (N_then_exit (N_block_eq ?_))))
  obtain rfl := Option.some.inj hm
  obtain rfl := bn _ rfl
  exact N_meet fun a ha => ⟨C, W, U, K.pk [0], ha.s⟩
 intro cj cp ⟨F, bi, bc, a6, bb⟩
 refine N_use bb ?_
 have hm := bf
 obtain rfl := Option.some.inj hm
 exact N_end [] (RVs_nil) (⟨F, rfl, bi, bc, a6.pk [0]⟩)
theorem c_slices_swapRangeCmpFunc_115__i_merged_1 (w : World) (y : List Event) (c : Option Addr) (g : Nat) (t : Seg) (ax : ownS encEvent y c g t) (d : Int) (k : Int) (u : Int) (hA : ∀ q ∈ List.flatten [t], w.heap[q.1]? = some q.2) (hN : (idsOf [t]).Nodup) {r : (List Event)} (hm : M.slices_swapRangeCmpFunc_115__i_merged_1 y d k u = some r) :
  Calls Try.prog 115 #[.slice c y.length g, iv d, iv k, iv u, .func (.func 85) #[] #[]] w fun e w' => ∃ (S : Seg), e = .returned (.tuple #[]) ∧ ownS encEvent r c g S ∧ r.length = y.length ∧ Mem (idsOf [t]) w w' [S] := by
 unfold M.slices_swapRangeCmpFunc_115__i_merged_1 at hm
 refine cE Try.func115 ?_
 have M0 := Mem.start' w [t] hA hN
 refine G_seq (G_region (wR 1 [(0, .slice c y.length g), (1, iv d), (2, iv k), (3, iv u), (10, iv 0)] w (W_nil (N_then ?_))))
 obtain ⟨Q, a4, aw⟩ := gx_bind hm
 refine G_meet (fun a w' => ∃ (A : Seg), ownS encEvent Q c g A ∧ Q.length = y.length ∧ Mem (idsOf [t]) w w' [A] ∧ Sat Try.f115.ntmps [] a) ?_ ?_
 ·refine G_block (G_while (σ := Int × List Event) (ρ := List Event) (fun b a w' => ∃ (z : Seg), ownS encEvent b.2 c g z ∧ b.2.length = y.length ∧ Mem (idsOf [t]) w w' [z] ∧ Sat Try.f115.ntmps [(0, .slice c b.2.length g), (1, iv d), (2, iv k), (3, iv u), (10, iv b.1)] a) a4 (fun a ha => ⟨t, ax, rfl, M0.pk [0], ha.s⟩) ?_)
  clear hm
  intro b b1 hm a3 bv T ⟨z, x, J, C, ar⟩
  refine G_use ar (G_seq (G_seq (G_region (wR 3 [(0, .slice c b.2.length g), (1, iv d), (2, iv k), (3, iv u), (10, iv b.1), (13, .bool (decide (b.1 < u)))] T (W_nil (N_then ?_))))))
  rcases gx_bif hm with ⟨B, hm⟩ | ⟨B, hm⟩
  ·refine gT B (G_skip (N_then (G_seq (G_block ?_))))
   obtain ⟨l, L, hm⟩ := gx_bind hm
   obtain ⟨m, N, hm⟩ := gx_bind hm
   obtain ⟨bt, O, hm⟩ := gx_bind hm
   have V : Mem (idsOf [t]) w T ([] ++ (List.range 22).map (fun i => ([[], [], [], [], [], [], [], [], [], [], [], [], [], [], [], [], [], [], [], [], [], z] : List Seg).getD i [])) := C.pk [300000, 300001, 300002, 300003, 300004, 300005, 300006, 300007, 300008, 300009, 300010, 300011, 300012, 300013, 300014, 300015, 300016, 300017, 300018, 300019, 300020, 0]
   refine G_sub [(0, .slice c b.2.length g), (1, iv d), (2, iv k), (3, iv u), (10, iv b.1), (13, .bool (decide (b.1 < u)))] (by kernel_rfl) (G_dagL 22 [[], [], [], [1, 2], [], [], [], [5, 6], [], [], [], [9, 10], [8, 11], [12], [], [], [], [15, 16], [14, 17], [18], [0, 3], [13, 20]] [[], [], [], [], [], [], [], [], [], [], [], [], [], [], [], [], [], [], [], [], [], []] [[], [], [], [], [], [], [], [], [], [], [], [], [], [], [], [], [], [], [], [], [], []] [[], [], [], [], [], [], [], [], [], [], [], [], [], [], [], [], [], [], [], [], [], []] [[], [], [], [], [], [], [], [], [], [], [], [], [], [], [], [], [], [], [], [], [], []] [[], [], [], [], [], [], [], [], [], [], [], [], [21], [21], [], [], [], [], [21], [21], [21], []] (fun i => ([[], [], [], [], [], [], [], [], [], [], [], [], [], [], [], [], [], [], [], [], [], z] : List Seg).getD i []) (fun i => ([fun f v s => v = (.slice c b.2.length g : Value) ∧ s = [], fun f v s => v = (iv d : Value) ∧ s = [], fun f v s => v = (iv b.1 : Value) ∧ s = [], fun f v s => v = (iv (w64 (d + b.1)) : Value) ∧ s = [], fun f v s => v = (.slice c b.2.length g : Value) ∧ s = [], fun f v s => v = (iv k : Value) ∧ s = [], fun f v s => v = (iv b.1 : Value) ∧ s = [], fun f v s => v = (iv (w64 (k + b.1)) : Value) ∧ s = [], fun f v s => v = (.slice c b.2.length g : Value) ∧ s = [], fun f v s => v = (iv k : Value) ∧ s = [], fun f v s => v = (iv b.1 : Value) ∧ s = [], fun f v s => v = (iv (w64 (k + b.1)) : Value) ∧ s = [], fun f v s => v = (elemP c ((w64 (k + b.1)).toNat * 4) : Value) ∧ s = [], fun f v s => v = (.agg #[iv l.Tick, iv l.Guest, .string l.Kind, iv l.Value] : Value) ∧ s = [], fun f v s => v = (.slice c b.2.length g : Value) ∧ s = [], fun f v s => v = (iv d : Value) ∧ s = [], fun f v s => v = (iv b.1 : Value) ∧ s = [], fun f v s => v = (iv (w64 (d + b.1)) : Value) ∧ s = [], fun f v s => v = (elemP c ((w64 (d + b.1)).toNat * 4) : Value) ∧ s = [], fun f v s => v = (.agg #[iv m.Tick, iv m.Guest, .string m.Kind, iv m.Value] : Value) ∧ s = [], fun f v s => v = (elemP c ((w64 (d + b.1)).toNat * 4) : Value) ∧ s = [], fun f v s => v = undef ∧ ownS encEvent (b.2.set (w64 (d + b.1)).toNat l) c g s] : List ((Nat → Value) → Value → Seg → Prop)).getD i (fun _ _ _ => False)) (fun j f v => ∃ s, (fun i => ([fun f v s => v = (.slice c b.2.length g : Value) ∧ s = [], fun f v s => v = (iv d : Value) ∧ s = [], fun f v s => v = (iv b.1 : Value) ∧ s = [], fun f v s => v = (iv (w64 (d + b.1)) : Value) ∧ s = [], fun f v s => v = (.slice c b.2.length g : Value) ∧ s = [], fun f v s => v = (iv k : Value) ∧ s = [], fun f v s => v = (iv b.1 : Value) ∧ s = [], fun f v s => v = (iv (w64 (k + b.1)) : Value) ∧ s = [], fun f v s => v = (.slice c b.2.length g : Value) ∧ s = [], fun f v s => v = (iv k : Value) ∧ s = [], fun f v s => v = (iv b.1 : Value) ∧ s = [], fun f v s => v = (iv (w64 (k + b.1)) : Value) ∧ s = [], fun f v s => v = (elemP c ((w64 (k + b.1)).toNat * 4) : Value) ∧ s = [], fun f v s => v = (.agg #[iv l.Tick, iv l.Guest, .string l.Kind, iv l.Value] : Value) ∧ s = [], fun f v s => v = (.slice c b.2.length g : Value) ∧ s = [], fun f v s => v = (iv d : Value) ∧ s = [], fun f v s => v = (iv b.1 : Value) ∧ s = [], fun f v s => v = (iv (w64 (d + b.1)) : Value) ∧ s = [], fun f v s => v = (elemP c ((w64 (d + b.1)).toNat * 4) : Value) ∧ s = [], fun f v s => v = (.agg #[iv m.Tick, iv m.Guest, .string m.Kind, iv m.Value] : Value) ∧ s = [], fun f v s => v = (elemP c ((w64 (d + b.1)).toNat * 4) : Value) ∧ s = [], fun f v s => v = undef ∧ ownS encEvent (b.2.set (w64 (d + b.1)).toNat l) c g s] : List ((Nat → Value) → Value → Seg → Prop)).getD i (fun _ _ _ => False)) j f v s) [] [4, 7, 19, 21] [21] (fun _ _ _ s h => ⟨s, h⟩) (by kernel_rfl) (by kernel_rfl) V (by kernel_rfl) (by kernel_rfl) (by kernel_rfl) (by kernel_rfl) (allOb_cons ?_ (allOb_cons ?_ (allOb_cons ?_ (allOb_cons ?_ (allOb_cons ?_ (allOb_cons ?_ (allOb_cons ?_ (allOb_cons ?_ (allOb_cons ?_ (allOb_cons ?_ (allOb_cons ?_ (allOb_cons ?_ (allOb_cons ?_ (allOb_cons ?_ (allOb_cons ?_ (allOb_cons ?_ (allOb_cons ?_ (allOb_cons ?_ (allOb_cons ?_ (allOb_cons ?_ (allOb_cons ?_ (allOb_cons ?_ allOb_nil)))))))))))))))))))))) ?_)
   ·intro n o
    intro R a7 W
    exact wR 1 [(16, .slice c b.2.length g)] a7 (W_nil (oE (.slice c b.2.length g) [] ⟨by kernel_rfl, rfl⟩ W))
   ·intro n o
    intro R a8 X
    exact wR 1 [(17, iv d)] a8 (W_nil (oE (iv d) [] ⟨by kernel_rfl, rfl⟩ X))
   ·intro n o
    intro R a9 Y
    exact wR 1 [(18, iv b.1)] a9 (W_nil (oE (iv b.1) [] ⟨by kernel_rfl, rfl⟩ Y))
   ·intro n o
    intro v1_ hb1_
    obtain ⟨rfl, _⟩ := hb1_
    intro v2_ hb2_
    obtain ⟨rfl, _⟩ := hb2_
    intro R ba Z
    exact wR 1 [(19, iv (w64 (d + b.1)))] ba (W_nil (oE (iv (w64 (d + b.1))) [] ⟨by kernel_rfl, rfl⟩ Z))
   ·intro n o
    intro R bb aa
    exact wR 1 [(20, .slice c b.2.length g)] bb (W_nil (oE (.slice c b.2.length g) [] ⟨by kernel_rfl, rfl⟩ aa))
   ·intro n o
    intro R bc ab
    exact wR 1 [(21, iv k)] bc (W_nil (oE (iv k) [] ⟨by kernel_rfl, rfl⟩ ab))
   ·intro n o
    intro R bd ac
    exact wR 1 [(22, iv b.1)] bd (W_nil (oE (iv b.1) [] ⟨by kernel_rfl, rfl⟩ ac))
   ·intro n o
    intro v5_ hb5_
    obtain ⟨rfl, _⟩ := hb5_
    intro v6_ hb6_
    obtain ⟨rfl, _⟩ := hb6_
    intro R be ad
    exact wR 1 [(23, iv (w64 (k + b.1)))] be (W_nil (oE (iv (w64 (k + b.1))) [] ⟨by kernel_rfl, rfl⟩ ad))
   ·intro n o
    intro R bf ae
    exact wR 1 [(24, .slice c b.2.length g)] bf (W_nil (oE (.slice c b.2.length g) [] ⟨by kernel_rfl, rfl⟩ ae))
   ·intro n o
    intro R bg af
    exact wR 1 [(25, iv k)] bg (W_nil (oE (iv k) [] ⟨by kernel_rfl, rfl⟩ af))
   ·intro n o
    intro R bh ag
    exact wR 1 [(26, iv b.1)] bh (W_nil (oE (iv b.1) [] ⟨by kernel_rfl, rfl⟩ ag))
   ·intro n o
    intro v9_ hb9_
    obtain ⟨rfl, _⟩ := hb9_
    intro v10_ hb10_
    obtain ⟨rfl, _⟩ := hb10_
    intro R bi ah
    exact wR 1 [(27, iv (w64 (k + b.1)))] bi (W_nil (oE (iv (w64 (k + b.1))) [] ⟨by kernel_rfl, rfl⟩ ah))
   ·intro n o
    intro v8_ hb8_
    obtain ⟨rfl, _⟩ := hb8_
    intro v11_ hb11_
    obtain ⟨rfl, _⟩ := hb11_
    intro R bj D
    exact wV (elemP c ((w64 (k + b.1)).toNat * 4)) bj (eI (x.rd D 1 (by kernel_rfl)) rfl L) (W_nil (oE (elemP c ((w64 (k + b.1)).toNat * 4)) [] ⟨by kernel_rfl, rfl⟩ D))
   ·intro n o
    intro v12_ hb12_
    obtain ⟨rfl, _⟩ := hb12_
    intro R bk E
    exact wV (.agg #[iv l.Tick, iv l.Guest, .string l.Kind, iv l.Value]) bk (eE true 4 0 ((w64 (k + b.1)).toNat * 4) (x.rd E 1 (by kernel_rfl)) L) (W_nil (oE (.agg #[iv l.Tick, iv l.Guest, .string l.Kind, iv l.Value]) [] ⟨by kernel_rfl, rfl⟩ E))
   ·intro n o
    intro R bl ai
    exact wR 1 [(30, .slice c b.2.length g)] bl (W_nil (oE (.slice c b.2.length g) [] ⟨by kernel_rfl, rfl⟩ ai))
   ·intro n o
    intro R bm aj
    exact wR 1 [(31, iv d)] bm (W_nil (oE (iv d) [] ⟨by kernel_rfl, rfl⟩ aj))
   ·intro n o
    intro R bn ak
    exact wR 1 [(32, iv b.1)] bn (W_nil (oE (iv b.1) [] ⟨by kernel_rfl, rfl⟩ ak))
   ·intro n o
    intro v15_ hb15_
    obtain ⟨rfl, _⟩ := hb15_
    intro v16_ hb16_
    obtain ⟨rfl, _⟩ := hb16_
    intro R bo al
    exact wR 1 [(33, iv (w64 (d + b.1)))] bo (W_nil (oE (iv (w64 (d + b.1))) [] ⟨by kernel_rfl, rfl⟩ al))
   ·intro n o
    intro v14_ hb14_
    obtain ⟨rfl, _⟩ := hb14_
    intro v17_ hb17_
    obtain ⟨rfl, _⟩ := hb17_
    intro R bp F
    exact wV (elemP c ((w64 (d + b.1)).toNat * 4)) bp (eI (x.rd F 1 (by kernel_rfl)) rfl N) (W_nil (oE (elemP c ((w64 (d + b.1)).toNat * 4)) [] ⟨by kernel_rfl, rfl⟩ F))
   ·intro n o
    intro v18_ hb18_
    obtain ⟨rfl, _⟩ := hb18_
    intro R bq G
    exact wV (.agg #[iv m.Tick, iv m.Guest, .string m.Kind, iv m.Value]) bq (eE true 4 0 ((w64 (d + b.1)).toNat * 4) (x.rd G 1 (by kernel_rfl)) N) (W_nil (oE (.agg #[iv m.Tick, iv m.Guest, .string m.Kind, iv m.Value]) [] ⟨by kernel_rfl, rfl⟩ G))
   ·intro n o
    intro v0_ hb0_
    obtain ⟨rfl, _⟩ := hb0_
    intro v3_ hb3_
    obtain ⟨rfl, _⟩ := hb3_
    intro R br H
    exact wV (elemP c ((w64 (d + b.1)).toNat * 4)) br (eI (x.rd H 1 (by kernel_rfl)) rfl O) (W_nil (oE (elemP c ((w64 (d + b.1)).toNat * 4)) [] ⟨by kernel_rfl, rfl⟩ H))
   ·intro n o
    intro v13_ hb13_
    obtain ⟨rfl, _⟩ := hb13_
    intro v20_ hb20_
    obtain ⟨rfl, _⟩ := hb20_
    intro R bx am
    refine wE true 4 (w64 (d + b.1)).toNat 0 ((w64 (d + b.1)).toNat * 4) bt l (.agg #[iv l.Tick, iv l.Guest, .string l.Kind, iv l.Value]) 0 am x (gxIdx_spec O).2 ?_
    intro bz a5 az an
    exact W_nil (ob_none a5 rfl ⟨rfl, az⟩ an)
   intro n o
   intro v4_ hb4_
   obtain ⟨rfl, _⟩ := hb4_
   intro v7_ hb7_
   obtain ⟨rfl, _⟩ := hb7_
   intro v19_ hb19_
   obtain ⟨rfl, _⟩ := hb19_
   intro v21_ hb21_
   obtain ⟨rfl, K⟩ := hb21_
   intro U ao
   have I : Mem (idsOf [t]) w U [(n 21)] := ao
   refine wX 0 (.slice c b.2.length g) (.slice c (b.2.set (w64 (d + b.1)).toNat l).length g) (by rw [@List.length_set _ b.2 ((w64 (d + b.1)).toNat) l]) (wX 20 (.slice c b.2.length g) (.slice c (b.2.set (w64 (d + b.1)).toNat l).length g) (by rw [@List.length_set _ b.2 ((w64 (d + b.1)).toNat) l]) ?_)
   obtain ⟨bu, P, hm⟩ := gx_bind hm
   refine wV (elemP c ((w64 (k + b.1)).toNat * 4)) U (eI (K.rd I 0 (by kernel_rfl)) rfl P) (wE true 4 (w64 (k + b.1)).toNat 0 ((w64 (k + b.1)).toNat * 4) bu m (.agg #[iv m.Tick, iv m.Guest, .string m.Kind, iv m.Value]) 0 I K (gxIdx_spec P).2 ?_)
   intro bs a6 a0 ap
   refine wX 0 (.slice c (b.2.set (w64 (d + b.1)).toNat l).length g) (.slice c ((b.2.set (w64 (d + b.1)).toNat l).set (w64 (k + b.1)).toNat m).length g) (by rw [@List.length_set _ (b.2.set (w64 (d + b.1)).toNat l) ((w64 (k + b.1)).toNat) m]) (wX 20 (.slice c (b.2.set (w64 (d + b.1)).toNat l).length g) (.slice c ((b.2.set (w64 (d + b.1)).toNat l).set (w64 (k + b.1)).toNat m).length g) (by rw [@List.length_set _ (b.2.set (w64 (d + b.1)).toNat l) ((w64 (k + b.1)).toNat) m]) (W_nil (N_block (N_then (G_region (wR 3 [(0, .slice c ((b.2.set (w64 (d + b.1)).toNat l).set (w64 (k + b.1)).toNat m).length g), (1, iv d), (2, iv k), (3, iv u), (10, iv (w64 (b.1 + 1)))] bs (W_nil ?_)))))))
   obtain rfl := Option.some.inj hm
   exact N_loop fun a ha => ⟨_, rfl, a6, a0, (List.length_set.trans (List.length_set.trans J)), ap.pk [0], ha.s⟩
  refine gF B (G_exit (N_then_exit (N_then_exit (N_block_eq ?_))))
  obtain rfl := Option.some.inj hm
  obtain rfl := a3 _ rfl
  exact N_meet fun a ha => ⟨z, x, J, C.pk [0], ha.s⟩
 intro bw b0 ⟨A, ay, av, aq, au⟩
 refine N_use au ?_
 have hm := aw
 obtain rfl := Option.some.inj hm
 exact N_end [] (RVs_nil) (⟨A, rfl, ay, av, aq.pk [0]⟩)
theorem c_slices_rotateCmpFunc_113__i_merged_1 (w : World) (i : List Event) (d : Option Addr) (c : Nat) (h : Seg) (X : ownS encEvent i d c h) (v : Int) (f : Int) (x : Int) (hA : ∀ q ∈ List.flatten [h], w.heap[q.1]? = some q.2) (hN : (idsOf [h]).Nodup) {r : (List Event)} (hm : M.slices_rotateCmpFunc_113__i_merged_1 i v f x = some r) :
  Calls Try.prog 113 #[.slice d i.length c, iv v, iv f, iv x, .func (.func 85) #[] #[]] w fun e w' => ∃ (G : Seg), e = .returned (.tuple #[]) ∧ ownS encEvent r d c G ∧ r.length = i.length ∧ Mem (idsOf [h]) w w' [G] := by
 unfold M.slices_rotateCmpFunc_113__i_merged_1 at hm
 refine cE Try.func113 ?_
 have M0 := Mem.start' w [h] hA hN
 refine G_seq (G_region (wR 4 [(0, .slice d i.length c), (2, iv f), (3, iv x), (4, .func (.func 85) #[] #[]), (10, iv (w64 (f - v)))] w (W_nil (N_then (G_seq (G_region (wR 4 [(0, .slice d i.length c), (2, iv f), (4, .func (.func 85) #[] #[]), (10, iv (w64 (f - v))), (11, iv (w64 (x - f)))] w (W_nil (N_then (G_seq ?_))))))))))
 obtain ⟨g, ai, W⟩ := gx_bind hm
 refine G_meet (fun a w' => ∃ (t : Seg), ownS encEvent g.2 d c t ∧ g.2.length = i.length ∧ Mem (idsOf [h]) w w' [t] ∧ Sat Try.f113.ntmps [(0, .slice d g.2.length c), (2, iv f), (4, .func (.func 85) #[] #[]), (10, iv g.1)] a) ?_ ?_
 ·refine G_block (G_while (σ := Int × Int × List Event) (ρ := Int × List Event) (fun b a w' => ∃ (k : Seg), ownS encEvent b.2.2 d c k ∧ b.2.2.length = i.length ∧ Mem (idsOf [h]) w w' [k] ∧ Sat Try.f113.ntmps [(0, .slice d b.2.2.length c), (2, iv f), (4, .func (.func 85) #[] #[]), (10, iv b.1), (11, iv b.2.1)] a) ai (fun a ha => ⟨h, X, rfl, M0.pk [0], ha.s⟩) ?_)
  clear hm
  intro b aw hm ae ap l ⟨k, D, B, j, Q⟩
  refine G_use Q (G_seq (G_seq (G_region (wR 3 [(0, .slice d b.2.2.length c), (2, iv f), (4, .func (.func 85) #[] #[]), (10, iv b.1), (11, iv b.2.1), (20, .bool (b.1 != b.2.1))] l (W_nil (N_then ?_))))))
  rcases gx_bif hm with ⟨z, hm⟩ | ⟨z, hm⟩
  ·refine gT z (G_skip (N_then (G_block (G_seq (G_region (wR 3 [(0, .slice d b.2.2.length c), (2, iv f), (4, .func (.func 85) #[] #[]), (10, iv b.1), (11, iv b.2.1), (23, .bool (decide (b.1 > b.2.1)))] l (W_nil (N_then ?_))))))))
   obtain ⟨o, Z, V⟩ := gx_bind hm
   refine G_meet (fun a w' => ∃ (u : Seg), ownS encEvent o.2.2 d c u ∧ o.2.2.length = i.length ∧ Mem (idsOf [h]) w w' [u] ∧ Sat Try.f113.ntmps [(0, .slice d o.2.2.length c), (2, iv f), (4, .func (.func 85) #[] #[]), (10, iv o.1), (11, iv o.2.1)] a) ?_ ?_
   ·have hm := Z
    rcases gx_bif hm with ⟨A, hm⟩ | ⟨A, hm⟩
    ·refine gT A (G_seq (G_region (wR 7 [(0, .slice d b.2.2.length c), (2, iv f), (4, .func (.func 85) #[] #[]), (10, iv b.1), (11, iv b.2.1), (24, .slice d b.2.2.length c), (27, iv (w64 (f - b.1))), (28, iv f), (29, iv b.2.1), (30, .func (.func 85) #[] #[])] l ?_)))
     obtain ⟨E, af, hm⟩ := gx_bind hm
     refine wC 115 #[.slice d b.2.2.length c, iv (w64 (f - b.1)), iv f, iv b.2.1, .func (.func 85) #[] #[]] ((c_slices_swapRangeCmpFunc_115__i_merged_1 l b.2.2 d c k D (w64 (f - b.1)) f b.2.1 (j.hasPick [0]) (j.nodupPick [0] (by kernel_rfl)) af).mono ?_)
     rintro e_ an ⟨ak, rfl, ab, m, I⟩
     have L := j.callF' [0] [] (by kernel_rfl) I
     refine ⟨_, rfl, ?_⟩
     refine wX 0 (.slice d b.2.2.length c) (.slice d E.length c) (by first | rw [m] | rw [m]) (wX 24 (.slice d b.2.2.length c) (.slice d E.length c) (by first | rw [m] | rw [m]) (W_nil (N_then (G_region (wR 4 [(0, .slice d E.length c), (2, iv f), (4, .func (.func 85) #[] #[]), (10, iv (w64 (b.1 - b.2.1))), (11, iv b.2.1)] an (W_nil ?_))))))
     obtain rfl := Option.some.inj hm
     exact N_meet fun a ha => ⟨ak, ab, (m.trans B), L.pk [0], ha.s⟩
    refine gF A (G_seq (G_region (wR 11 [(0, .slice d b.2.2.length c), (2, iv f), (4, .func (.func 85) #[] #[]), (10, iv b.1), (11, iv b.2.1), (35, .slice d b.2.2.length c), (38, iv (w64 (f - b.1))), (43, iv (w64 ((w64 (f + b.2.1)) - b.1))), (44, iv b.1), (45, .func (.func 85) #[] #[])] l ?_)))
    obtain ⟨F, ag, hm⟩ := gx_bind hm
    refine wC 115 #[.slice d b.2.2.length c, iv (w64 (f - b.1)), iv (w64 ((w64 (f + b.2.1)) - b.1)), iv b.1, .func (.func 85) #[] #[]] ((c_slices_swapRangeCmpFunc_115__i_merged_1 l b.2.2 d c k D (w64 (f - b.1)) (w64 ((w64 (f + b.2.1)) - b.1)) b.1 (j.hasPick [0]) (j.nodupPick [0] (by kernel_rfl)) ag).mono ?_)
    rintro e_ ao ⟨al, rfl, ac, n, J⟩
    have N := j.callF' [0] [] (by kernel_rfl) J
    refine ⟨_, rfl, ?_⟩
    refine wX 0 (.slice d b.2.2.length c) (.slice d F.length c) (by first | rw [n] | rw [n]) (wX 35 (.slice d b.2.2.length c) (.slice d F.length c) (by first | rw [n] | rw [n]) (W_nil (N_then (G_region (wR 4 [(0, .slice d F.length c), (2, iv f), (4, .func (.func 85) #[] #[]), (10, iv b.1), (11, iv (w64 (b.2.1 - b.1)))] ao (W_nil ?_))))))
    obtain rfl := Option.some.inj hm
    exact N_meet fun a ha => ⟨al, ac, (n.trans B), N.pk [0], ha.s⟩
   intro aq au ⟨u, aa, U, O, R⟩
   refine N_use R ?_
   have hm := V
   refine N_block ?_
   obtain rfl := Option.some.inj hm
   exact N_loop fun a ha => ⟨_, rfl, u, aa, U, O.pk [0], ha.s⟩
  refine gF z (G_exit (N_then_exit (N_then_exit (N_block_eq ?_))))
  obtain rfl := Option.some.inj hm
  obtain rfl := ae _ rfl
  exact N_meet fun a ha => ⟨k, D, B, j.pk [0], ha.s⟩
 intro ar H ⟨t, Y, T, y, S⟩
 refine N_use S ?_
 have hm := W
 refine N_then (G_region (wR 7 [(50, .slice d g.2.length c), (53, iv (w64 (f - g.1))), (54, iv f), (55, iv g.1), (56, .func (.func 85) #[] #[])] H ?_))
 obtain ⟨aj, ah, hm⟩ := gx_bind hm
 refine wC 115 #[.slice d g.2.length c, iv (w64 (f - g.1)), iv f, iv g.1, .func (.func 85) #[] #[]] ((c_slices_swapRangeCmpFunc_115__i_merged_1 H g.2 d c t Y (w64 (f - g.1)) f g.1 (y.hasPick [0]) (y.nodupPick [0] (by kernel_rfl)) ah).mono ?_)
 rintro e_ av ⟨am, rfl, ad, C, K⟩
 have P := y.callF' [0] [] (by kernel_rfl) K
 refine ⟨_, rfl, ?_⟩
 refine wX 50 (.slice d g.2.length c) (.slice d aj.length c) (by first | rw [C] | rw [C]) (W_nil ?_)
 obtain rfl := Option.some.inj hm
 exact N_end [] (RVs_nil) (⟨am, rfl, ad, (C.trans T), P.pk [0]⟩)
theorem c_slices_symMergeCmpFunc_106__i_merged_1 (fuel_ : Nat) : ∀ (w : World) (n : List Event) (b : Option Addr) (d : Nat) (u : Seg) (D : ownS encEvent n b d u) (c : Int) (k : Int) (g : Int) (hA : ∀ q ∈ List.flatten [u], w.heap[q.1]? = some q.2) (hN : (idsOf [u]).Nodup) {r : (List Event)} (hm : M.slices_symMergeCmpFunc_106__i_merged_1 fuel_ n c k g = some r),
  Calls Try.prog 106 #[.slice b n.length d, iv c, iv k, iv g, .func (.func 85) #[] #[]] w fun e w' => ∃ (cs : Seg), e = .returned (.tuple #[]) ∧ ownS encEvent r b d cs ∧ r.length = n.length ∧ Mem (idsOf [u]) w w' [cs] := by
 induction fuel_ with
 | zero =>
  intro w n b d u D c k g hA hN r hm
  unfold M.slices_symMergeCmpFunc_106__i_merged_1 at hm
  cases hm
 | succ n_ ih_ =>
  intro w n b d u D c k g hA hN r hm
  unfold M.slices_symMergeCmpFunc_106__i_merged_1 at hm
  refine cE Try.func106 ?_
  have M0 := Mem.start' w [u] hA hN
  refine G_seq (G_seq (G_region (wR 4 [(0, .slice b n.length d), (1, iv c), (2, iv k), (3, iv g), (4, .func (.func 85) #[] #[]), (28, .bool ((w64 (k - c)) == 1))] w (W_nil (N_then ?_)))))
  rcases gx_bif hm with ⟨am, hm⟩ | ⟨am, hm⟩
  ·refine gT am (G_seq (G_region (wR 2 [(0, .slice b n.length d), (1, iv c), (3, iv g), (4, .func (.func 85) #[] #[]), (10, iv k)] w (W_nil (N_then (G_seq (G_region (wR 2 [(0, .slice b n.length d), (1, iv c), (4, .func (.func 85) #[] #[]), (10, iv k), (11, iv g)] w (W_nil (N_then (G_seq ?_)))))))))))
   obtain ⟨S, gc, fc⟩ := gx_bind hm
   refine G_meet (fun a w' => Mem (idsOf [u]) w w' [u] ∧ Sat Try.f106.ntmps [(0, .slice b n.length d), (1, iv c), (10, iv S)] a) ?_ ?_
   ·refine G_block (G_while (σ := Int × Int) (ρ := Int) (fun x a w' => Mem (idsOf [u]) w w' [u] ∧ Sat Try.f106.ntmps [(0, .slice b n.length d), (1, iv c), (4, .func (.func 85) #[] #[]), (10, iv x.1), (11, iv x.2)] a) gc (fun a ha => ⟨M0.pk [0], ha.s⟩) ?_)
    clear hm
    intro x iw hm f1 hx ct ⟨ba, ee⟩
    refine G_use ee (G_seq (G_seq (G_region (wR 3 [(0, .slice b n.length d), (1, iv c), (4, .func (.func 85) #[] #[]), (10, iv x.1), (11, iv x.2), (33, .bool (decide (x.1 < x.2)))] ct (W_nil (N_then ?_))))))
    rcases gx_bif hm with ⟨an, hm⟩ | ⟨an, hm⟩
    ·refine gT an (G_skip (N_then (G_block (G_seq (G_region (wR 7 [(0, .slice b n.length d), (1, iv c), (4, .func (.func 85) #[] #[]), (10, iv x.1), (11, iv x.2), (12, iv (w64 ((IntKind.u64.wrap (w64 (x.1 + x.2))).fdiv (2 ^ 1))))] ct (W_nil (N_then (G_seq (G_quiet (by kernel_rfl) (by kernel_rfl) ba (zR [.func (.func 85) #[] #[], .slice b n.length d, iv (w64 ((IntKind.u64.wrap (w64 (x.1 + x.2))).fdiv (2 ^ 1)))] [(0, .slice b n.length d), (1, iv c), (4, .func (.func 85) #[] #[]), (10, iv x.1), (11, iv x.2), (12, iv (w64 ((IntKind.u64.wrap (w64 (x.1 + x.2))).fdiv (2 ^ 1)))), (40, .func (.func 85) #[] #[]), (41, .slice b n.length d), (42, iv (w64 ((IntKind.u64.wrap (w64 (x.1 + x.2))).fdiv (2 ^ 1))))] ?_)))))))))))
     obtain ⟨J, b6, hm⟩ := gx_bind hm
     refine zV (elemP b ((w64 ((IntKind.u64.wrap (w64 (x.1 + x.2))).fdiv (2 ^ 1))).toNat * 4)) (fun w_ M_ => (eI (D.rd M_ 0 (by kernel_rfl)) rfl b6)) (zV (.agg #[iv J.Tick, iv J.Guest, .string J.Kind, iv J.Value]) (fun w_ M_ => (eE true 4 0 ((w64 ((IntKind.u64.wrap (w64 (x.1 + x.2))).fdiv (2 ^ 1))).toNat * 4) (D.rd M_ 0 (by kernel_rfl)) b6)) (zR [.slice b n.length d, iv c] [(0, .slice b n.length d), (1, iv c), (4, .func (.func 85) #[] #[]), (10, iv x.1), (11, iv x.2), (12, iv (w64 ((IntKind.u64.wrap (w64 (x.1 + x.2))).fdiv (2 ^ 1)))), (40, .func (.func 85) #[] #[]), (44, .agg #[iv J.Tick, iv J.Guest, .string J.Kind, iv J.Value]), (45, .slice b n.length d), (46, iv c)] ?_))
     obtain ⟨O, b7, hm⟩ := gx_bind hm
     refine zV (elemP b (c.toNat * 4)) (fun w_ M_ => (eI (D.rd M_ 0 (by kernel_rfl)) rfl b7)) (zV (.agg #[iv O.Tick, iv O.Guest, .string O.Kind, iv O.Value]) (fun w_ M_ => (eE true 4 0 (c.toNat * 4) (D.rd M_ 0 (by kernel_rfl)) b7)) ?_)
     obtain ⟨a8, f6, hm⟩ := gx_bind hm
     refine Z_call 85 #[.agg #[iv J.Tick, iv J.Guest, .string J.Kind, iv J.Value], .agg #[iv O.Tick, iv O.Guest, .string O.Kind, iv O.Value]] (iv a8) (by kernel_rfl) (fun w_ => by kernel_rfl) (fun w_ M_ => (c_i_merged_1 w_ J O f6).mono fun e w2_ h_ => ⟨h_.1, M_.call0 h_.2⟩) (zR [.bool (decide (a8 < 0))] [(0, .slice b n.length d), (1, iv c), (4, .func (.func 85) #[] #[]), (10, iv x.1), (11, iv x.2), (12, iv (w64 ((IntKind.u64.wrap (w64 (x.1 + x.2))).fdiv (2 ^ 1)))), (50, .bool (decide (a8 < 0)))] (Z_end fun cu bb => (N_then ?_)))
     obtain ⟨ck, fh, e2⟩ := gx_bind hm
     refine G_meet (fun a w' => Mem (idsOf [u]) w w' [u] ∧ Sat Try.f106.ntmps [(0, .slice b n.length d), (1, iv c), (4, .func (.func 85) #[] #[]), (10, iv ck.1), (11, iv ck.2)] a) ?_ ?_
     ·have hm := fh
      rcases gx_bif hm with ⟨ao, hm⟩ | ⟨ao, hm⟩
      ·refine gT ao (G_region (wR 3 [(0, .slice b n.length d), (1, iv c), (4, .func (.func 85) #[] #[]), (10, iv (w64 ((w64 ((IntKind.u64.wrap (w64 (x.1 + x.2))).fdiv (2 ^ 1))) + 1))), (11, iv x.2)] cu (W_nil ?_)))
       obtain rfl := Option.some.inj hm
       exact N_meet fun a ha => ⟨bb.pk [0], ha.s⟩
      refine gF ao (G_region (wR 2 [(0, .slice b n.length d), (1, iv c), (4, .func (.func 85) #[] #[]), (10, iv x.1), (11, iv (w64 ((IntKind.u64.wrap (w64 (x.1 + x.2))).fdiv (2 ^ 1))))] cu (W_nil ?_)))
      obtain rfl := Option.some.inj hm
      exact N_meet fun a ha => ⟨bb.pk [0], ha.s⟩
     intro hy ij ⟨c7, ef⟩
     refine N_use ef ?_
     have hm := e2
     refine N_block ?_
     obtain rfl := Option.some.inj hm
     exact N_loop fun a ha => ⟨_, rfl, c7.pk [0], ha.s⟩
    refine gF an (G_exit (N_then_exit (N_then_exit (N_block_eq ?_))))
    obtain rfl := Option.some.inj hm
    obtain rfl := f1 _ rfl
    exact N_meet fun a ha => ⟨ba.pk [0], ha.s⟩
   intro hz gs ⟨c8, eg⟩
   refine N_use eg ?_
   have hm := fc
   refine N_then (G_seq (G_seq (G_region (wR 2 [(0, .slice b n.length d), (10, iv S), (13, iv c)] gs (W_nil (N_then ?_))))))
   obtain ⟨co, gd, fd⟩ := gx_bind hm
   refine G_meet (fun a w' => ∃ (ai : Seg), ownS encEvent co b d ai ∧ co.length = n.length ∧ Mem (idsOf [u]) w w' [ai] ∧ Sat Try.f106.ntmps [] a) ?_ ?_
   ·refine G_block (G_while (σ := Int × List Event) (ρ := List Event) (fun l a w' => ∃ (W : Seg), ownS encEvent l.2 b d W ∧ l.2.length = n.length ∧ Mem (idsOf [u]) w w' [W] ∧ Sat Try.f106.ntmps [(0, .slice b l.2.length d), (10, iv S), (13, iv l.1)] a) gd (fun a ha => ⟨u, D, rfl, c8.pk [0], ha.s⟩) ?_)
    clear hm
    intro l ix hm f2 h0 cv ⟨W, U, bx, bc, eh⟩
    refine G_use eh (G_seq (G_seq (G_region (wR 4 [(0, .slice b l.2.length d), (10, iv S), (13, iv l.1), (58, .bool (decide (l.1 < (w64 (S - 1)))))] cv (W_nil (N_then ?_))))))
    rcases gx_bif hm with ⟨ap, hm⟩ | ⟨ap, hm⟩
    ·refine gT ap (G_skip (N_then (G_seq (G_block ?_))))
     obtain ⟨z, b8, hm⟩ := gx_bind hm
     obtain ⟨B, b9, hm⟩ := gx_bind hm
     obtain ⟨ht, ca, hm⟩ := gx_bind hm
     have c9 : Mem (idsOf [u]) w cv ([] ++ (List.range 16).map (fun i => ([[], [], [], [], [], [], [], [], [], [], [], [], [], [], [], W] : List Seg).getD i [])) := bc.pk [300000, 300001, 300002, 300003, 300004, 300005, 300006, 300007, 300008, 300009, 300010, 300011, 300012, 300013, 300014, 0]
     refine G_sub [(0, .slice b l.2.length d), (10, iv S), (13, iv l.1), (58, .bool (decide (l.1 < (w64 (S - 1)))))] (by kernel_rfl) (G_dagL 16 [[], [], [], [], [3], [], [], [6], [5, 7], [8], [], [], [10, 11], [12], [0, 1], [9, 14]] [[], [], [], [], [], [], [], [], [], [], [], [], [], [], [], []] [[], [], [], [], [], [], [], [], [], [], [], [], [], [], [], []] [[], [], [], [], [], [], [], [], [], [], [], [], [], [], [], []] [[], [], [], [], [], [], [], [], [], [], [], [], [], [], [], []] [[], [], [], [], [], [], [], [], [15], [15], [], [], [15], [15], [15], []] (fun i => ([[], [], [], [], [], [], [], [], [], [], [], [], [], [], [], W] : List Seg).getD i []) (fun i => ([fun f v s => v = (.slice b l.2.length d : Value) ∧ s = [], fun f v s => v = (iv l.1 : Value) ∧ s = [], fun f v s => v = (.slice b l.2.length d : Value) ∧ s = [], fun f v s => v = (iv l.1 : Value) ∧ s = [], fun f v s => v = (iv (w64 (l.1 + 1)) : Value) ∧ s = [], fun f v s => v = (.slice b l.2.length d : Value) ∧ s = [], fun f v s => v = (iv l.1 : Value) ∧ s = [], fun f v s => v = (iv (w64 (l.1 + 1)) : Value) ∧ s = [], fun f v s => v = (elemP b ((w64 (l.1 + 1)).toNat * 4) : Value) ∧ s = [], fun f v s => v = (.agg #[iv z.Tick, iv z.Guest, .string z.Kind, iv z.Value] : Value) ∧ s = [], fun f v s => v = (.slice b l.2.length d : Value) ∧ s = [], fun f v s => v = (iv l.1 : Value) ∧ s = [], fun f v s => v = (elemP b (l.1.toNat * 4) : Value) ∧ s = [], fun f v s => v = (.agg #[iv B.Tick, iv B.Guest, .string B.Kind, iv B.Value] : Value) ∧ s = [], fun f v s => v = (elemP b (l.1.toNat * 4) : Value) ∧ s = [], fun f v s => v = undef ∧ ownS encEvent (l.2.set l.1.toNat z) b d s] : List ((Nat → Value) → Value → Seg → Prop)).getD i (fun _ _ _ => False)) (fun j f v => ∃ s, (fun i => ([fun f v s => v = (.slice b l.2.length d : Value) ∧ s = [], fun f v s => v = (iv l.1 : Value) ∧ s = [], fun f v s => v = (.slice b l.2.length d : Value) ∧ s = [], fun f v s => v = (iv l.1 : Value) ∧ s = [], fun f v s => v = (iv (w64 (l.1 + 1)) : Value) ∧ s = [], fun f v s => v = (.slice b l.2.length d : Value) ∧ s = [], fun f v s => v = (iv l.1 : Value) ∧ s = [], fun f v s => v = (iv (w64 (l.1 + 1)) : Value) ∧ s = [], fun f v s => v = (elemP b ((w64 (l.1 + 1)).toNat * 4) : Value) ∧ s = [], fun f v s => v = (.agg #[iv z.Tick, iv z.Guest, .string z.Kind, iv z.Value] : Value) ∧ s = [], fun f v s => v = (.slice b l.2.length d : Value) ∧ s = [], fun f v s => v = (iv l.1 : Value) ∧ s = [], fun f v s => v = (elemP b (l.1.toNat * 4) : Value) ∧ s = [], fun f v s => v = (.agg #[iv B.Tick, iv B.Guest, .string B.Kind, iv B.Value] : Value) ∧ s = [], fun f v s => v = (elemP b (l.1.toNat * 4) : Value) ∧ s = [], fun f v s => v = undef ∧ ownS encEvent (l.2.set l.1.toNat z) b d s] : List ((Nat → Value) → Value → Seg → Prop)).getD i (fun _ _ _ => False)) j f v s) [] [2, 4, 13, 15] [15] (fun _ _ _ s h => ⟨s, h⟩) (by kernel_rfl) (by kernel_rfl) c9 (by kernel_rfl) (by kernel_rfl) (by kernel_rfl) (by kernel_rfl) (allOb_cons ?_ (allOb_cons ?_ (allOb_cons ?_ (allOb_cons ?_ (allOb_cons ?_ (allOb_cons ?_ (allOb_cons ?_ (allOb_cons ?_ (allOb_cons ?_ (allOb_cons ?_ (allOb_cons ?_ (allOb_cons ?_ (allOb_cons ?_ (allOb_cons ?_ (allOb_cons ?_ (allOb_cons ?_ allOb_nil)))))))))))))))) ?_)
     ·intro E G
      intro R gt da
      exact wR 1 [(61, .slice b l.2.length d)] gt (W_nil (oE (.slice b l.2.length d) [] ⟨by kernel_rfl, rfl⟩ da))
     ·intro E G
      intro R gu db
      exact wR 1 [(62, iv l.1)] gu (W_nil (oE (iv l.1) [] ⟨by kernel_rfl, rfl⟩ db))
     ·intro E G
      intro R gv dc
      exact wR 1 [(63, .slice b l.2.length d)] gv (W_nil (oE (.slice b l.2.length d) [] ⟨by kernel_rfl, rfl⟩ dc))
     ·intro E G
      intro R gw dd
      exact wR 1 [(64, iv l.1)] gw (W_nil (oE (iv l.1) [] ⟨by kernel_rfl, rfl⟩ dd))
     ·intro E G
      intro v3_ hb3_
      obtain ⟨rfl, _⟩ := hb3_
      intro R gx de
      exact wR 1 [(65, iv (w64 (l.1 + 1)))] gx (W_nil (oE (iv (w64 (l.1 + 1))) [] ⟨by kernel_rfl, rfl⟩ de))
     ·intro E G
      intro R gy df
      exact wR 1 [(66, .slice b l.2.length d)] gy (W_nil (oE (.slice b l.2.length d) [] ⟨by kernel_rfl, rfl⟩ df))
     ·intro E G
      intro R gz dg
      exact wR 1 [(67, iv l.1)] gz (W_nil (oE (iv l.1) [] ⟨by kernel_rfl, rfl⟩ dg))
     ·intro E G
      intro v6_ hb6_
      obtain ⟨rfl, _⟩ := hb6_
      intro R g0 dh
      exact wR 1 [(68, iv (w64 (l.1 + 1)))] g0 (W_nil (oE (iv (w64 (l.1 + 1))) [] ⟨by kernel_rfl, rfl⟩ dh))
     ·intro E G
      intro v5_ hb5_
      obtain ⟨rfl, _⟩ := hb5_
      intro v7_ hb7_
      obtain ⟨rfl, _⟩ := hb7_
      intro R g1 bd
      exact wV (elemP b ((w64 (l.1 + 1)).toNat * 4)) g1 (eI (U.rd bd 1 (by kernel_rfl)) rfl b8) (W_nil (oE (elemP b ((w64 (l.1 + 1)).toNat * 4)) [] ⟨by kernel_rfl, rfl⟩ bd))
     ·intro E G
      intro v8_ hb8_
      obtain ⟨rfl, _⟩ := hb8_
      intro R g2 be
      exact wV (.agg #[iv z.Tick, iv z.Guest, .string z.Kind, iv z.Value]) g2 (eE true 4 0 ((w64 (l.1 + 1)).toNat * 4) (U.rd be 1 (by kernel_rfl)) b8) (W_nil (oE (.agg #[iv z.Tick, iv z.Guest, .string z.Kind, iv z.Value]) [] ⟨by kernel_rfl, rfl⟩ be))
     ·intro E G
      intro R g3 di
      exact wR 1 [(71, .slice b l.2.length d)] g3 (W_nil (oE (.slice b l.2.length d) [] ⟨by kernel_rfl, rfl⟩ di))
     ·intro E G
      intro R g4 dj
      exact wR 1 [(72, iv l.1)] g4 (W_nil (oE (iv l.1) [] ⟨by kernel_rfl, rfl⟩ dj))
     ·intro E G
      intro v10_ hb10_
      obtain ⟨rfl, _⟩ := hb10_
      intro v11_ hb11_
      obtain ⟨rfl, _⟩ := hb11_
      intro R g5 bf
      exact wV (elemP b (l.1.toNat * 4)) g5 (eI (U.rd bf 1 (by kernel_rfl)) rfl b9) (W_nil (oE (elemP b (l.1.toNat * 4)) [] ⟨by kernel_rfl, rfl⟩ bf))
     ·intro E G
      intro v12_ hb12_
      obtain ⟨rfl, _⟩ := hb12_
      intro R g6 bg
      exact wV (.agg #[iv B.Tick, iv B.Guest, .string B.Kind, iv B.Value]) g6 (eE true 4 0 (l.1.toNat * 4) (U.rd bg 1 (by kernel_rfl)) b9) (W_nil (oE (.agg #[iv B.Tick, iv B.Guest, .string B.Kind, iv B.Value]) [] ⟨by kernel_rfl, rfl⟩ bg))
     ·intro E G
      intro v0_ hb0_
      obtain ⟨rfl, _⟩ := hb0_
      intro v1_ hb1_
      obtain ⟨rfl, _⟩ := hb1_
      intro R g7 bh
      exact wV (elemP b (l.1.toNat * 4)) g7 (eI (U.rd bh 1 (by kernel_rfl)) rfl ca) (W_nil (oE (elemP b (l.1.toNat * 4)) [] ⟨by kernel_rfl, rfl⟩ bh))
     ·intro E G
      intro v9_ hb9_
      obtain ⟨rfl, _⟩ := hb9_
      intro v14_ hb14_
      obtain ⟨rfl, _⟩ := hb14_
      intro R ik dk
      refine wE true 4 l.1.toNat 0 (l.1.toNat * 4) ht z (.agg #[iv z.Tick, iv z.Guest, .string z.Kind, iv z.Value]) 0 dk U (gxIdx_spec ca).2 ?_
      intro il gl fj dl
      exact W_nil (ob_none gl rfl ⟨rfl, fj⟩ dl)
     intro E G
     intro v2_ hb2_
     obtain ⟨rfl, _⟩ := hb2_
     intro v4_ hb4_
     obtain ⟨rfl, _⟩ := hb4_
     intro v13_ hb13_
     obtain ⟨rfl, _⟩ := hb13_
     intro v15_ hb15_
     obtain ⟨rfl, b2⟩ := hb15_
     intro cw dm
     have bi : Mem (idsOf [u]) w cw [(E 15)] := dm
     refine wX 0 (.slice b l.2.length d) (.slice b (l.2.set l.1.toNat z).length d) (by rw [@List.length_set _ l.2 l.1.toNat z]) (wX 63 (.slice b l.2.length d) (.slice b (l.2.set l.1.toNat z).length d) (by rw [@List.length_set _ l.2 l.1.toNat z]) ?_)
     obtain ⟨hu, cb, hm⟩ := gx_bind hm
     refine wV (elemP b ((w64 (l.1 + 1)).toNat * 4)) cw (eI (b2.rd bi 0 (by kernel_rfl)) rfl cb) (wE true 4 (w64 (l.1 + 1)).toNat 0 ((w64 (l.1 + 1)).toNat * 4) hu B (.agg #[iv B.Tick, iv B.Guest, .string B.Kind, iv B.Value]) 0 bi b2 (gxIdx_spec cb).2 ?_)
     intro g8 gm fk dn
     refine wX 0 (.slice b (l.2.set l.1.toNat z).length d) (.slice b ((l.2.set l.1.toNat z).set (w64 (l.1 + 1)).toNat B).length d) (by rw [@List.length_set _ (l.2.set l.1.toNat z) ((w64 (l.1 + 1)).toNat) B]) (wX 63 (.slice b (l.2.set l.1.toNat z).length d) (.slice b ((l.2.set l.1.toNat z).set (w64 (l.1 + 1)).toNat B).length d) (by rw [@List.length_set _ (l.2.set l.1.toNat z) ((w64 (l.1 + 1)).toNat) B]) (W_nil (N_block (N_then (G_region (wR 3 [(0, .slice b ((l.2.set l.1.toNat z).set (w64 (l.1 + 1)).toNat B).length d), (10, iv S), (13, iv (w64 (l.1 + 1)))] g8 (W_nil ?_)))))))
     obtain rfl := Option.some.inj hm
     exact N_loop fun a ha => ⟨_, rfl, gm, fk, (List.length_set.trans (List.length_set.trans bx)), dn.pk [0], ha.s⟩
    refine gF ap (G_exit (N_then_exit (N_then_exit (N_block_eq ?_))))
    obtain rfl := Option.some.inj hm
    obtain rfl := f2 _ rfl
    exact N_meet fun a ha => ⟨W, U, bx, bc.pk [0], ha.s⟩
   intro h1 im ⟨ai, fi, ez, dp, ei⟩
   refine N_use ei ?_
   have hm := fd
   refine N_then (G_ret (N_then_ret ?_))
   obtain rfl := Option.some.inj hm
   exact N_ret [] (RVs_nil) (⟨ai, rfl, fi, ez, dp.pk [0]⟩)
  refine gF am (G_skip (N_then (G_seq (G_seq (G_region (wR 4 [(0, .slice b n.length d), (1, iv c), (2, iv k), (3, iv g), (4, .func (.func 85) #[] #[]), (80, .bool ((w64 (g - k)) == 1))] w (W_nil (N_then ?_))))))))
  rcases gx_bif hm with ⟨aq, hm⟩ | ⟨aq, hm⟩
  ·refine gT aq (G_seq (G_region (wR 2 [(0, .slice b n.length d), (2, iv k), (4, .func (.func 85) #[] #[]), (14, iv c)] w (W_nil (N_then (G_seq (G_region (wR 2 [(0, .slice b n.length d), (2, iv k), (4, .func (.func 85) #[] #[]), (14, iv c), (15, iv k)] w (W_nil (N_then (G_seq ?_)))))))))))
   obtain ⟨T, ge, fe⟩ := gx_bind hm
   refine G_meet (fun a w' => Mem (idsOf [u]) w w' [u] ∧ Sat Try.f106.ntmps [(0, .slice b n.length d), (2, iv k), (14, iv T)] a) ?_ ?_
   ·refine G_block (G_while (σ := Int × Int) (ρ := Int) (fun y a w' => Mem (idsOf [u]) w w' [u] ∧ Sat Try.f106.ntmps [(0, .slice b n.length d), (2, iv k), (4, .func (.func 85) #[] #[]), (14, iv y.1), (15, iv y.2)] a) ge (fun a ha => ⟨M0.pk [0], ha.s⟩) ?_)
    clear hm
    intro y iy hm f3 h2 cx ⟨bj, ej⟩
    refine G_use ej (G_seq (G_seq (G_region (wR 3 [(0, .slice b n.length d), (2, iv k), (4, .func (.func 85) #[] #[]), (14, iv y.1), (15, iv y.2), (85, .bool (decide (y.1 < y.2)))] cx (W_nil (N_then ?_))))))
    rcases gx_bif hm with ⟨ar, hm⟩ | ⟨ar, hm⟩
    ·refine gT ar (G_skip (N_then (G_block (G_seq (G_region (wR 7 [(0, .slice b n.length d), (2, iv k), (4, .func (.func 85) #[] #[]), (14, iv y.1), (15, iv y.2), (16, iv (w64 ((IntKind.u64.wrap (w64 (y.1 + y.2))).fdiv (2 ^ 1))))] cx (W_nil (N_then (G_seq (G_quiet (by kernel_rfl) (by kernel_rfl) bj (zR [.func (.func 85) #[] #[], .slice b n.length d, iv k] [(0, .slice b n.length d), (2, iv k), (4, .func (.func 85) #[] #[]), (14, iv y.1), (15, iv y.2), (16, iv (w64 ((IntKind.u64.wrap (w64 (y.1 + y.2))).fdiv (2 ^ 1)))), (92, .func (.func 85) #[] #[]), (93, .slice b n.length d), (94, iv k)] ?_)))))))))))
     obtain ⟨K, cc, hm⟩ := gx_bind hm
     refine zV (elemP b (k.toNat * 4)) (fun w_ M_ => (eI (D.rd M_ 0 (by kernel_rfl)) rfl cc)) (zV (.agg #[iv K.Tick, iv K.Guest, .string K.Kind, iv K.Value]) (fun w_ M_ => (eE true 4 0 (k.toNat * 4) (D.rd M_ 0 (by kernel_rfl)) cc)) (zR [.slice b n.length d, iv (w64 ((IntKind.u64.wrap (w64 (y.1 + y.2))).fdiv (2 ^ 1)))] [(0, .slice b n.length d), (2, iv k), (4, .func (.func 85) #[] #[]), (14, iv y.1), (15, iv y.2), (16, iv (w64 ((IntKind.u64.wrap (w64 (y.1 + y.2))).fdiv (2 ^ 1)))), (92, .func (.func 85) #[] #[]), (96, .agg #[iv K.Tick, iv K.Guest, .string K.Kind, iv K.Value]), (97, .slice b n.length d), (98, iv (w64 ((IntKind.u64.wrap (w64 (y.1 + y.2))).fdiv (2 ^ 1))))] ?_))
     obtain ⟨P, cd, hm⟩ := gx_bind hm
     refine zV (elemP b ((w64 ((IntKind.u64.wrap (w64 (y.1 + y.2))).fdiv (2 ^ 1))).toNat * 4)) (fun w_ M_ => (eI (D.rd M_ 0 (by kernel_rfl)) rfl cd)) (zV (.agg #[iv P.Tick, iv P.Guest, .string P.Kind, iv P.Value]) (fun w_ M_ => (eE true 4 0 ((w64 ((IntKind.u64.wrap (w64 (y.1 + y.2))).fdiv (2 ^ 1))).toNat * 4) (D.rd M_ 0 (by kernel_rfl)) cd)) ?_)
     obtain ⟨ag, f7, hm⟩ := gx_bind hm
     refine Z_call 85 #[.agg #[iv K.Tick, iv K.Guest, .string K.Kind, iv K.Value], .agg #[iv P.Tick, iv P.Guest, .string P.Kind, iv P.Value]] (iv ag) (by kernel_rfl) (fun w_ => by kernel_rfl) (fun w_ M_ => (c_i_merged_1 w_ K P f7).mono fun e w2_ h_ => ⟨h_.1, M_.call0 h_.2⟩) (zR [.bool (decide (ag < 0)), .bool (!(decide (ag < 0)))] [(0, .slice b n.length d), (2, iv k), (4, .func (.func 85) #[] #[]), (14, iv y.1), (15, iv y.2), (16, iv (w64 ((IntKind.u64.wrap (w64 (y.1 + y.2))).fdiv (2 ^ 1)))), (103, .bool (!(decide (ag < 0))))] (Z_end fun cy bk => (N_then ?_)))
     obtain ⟨cl, fl, e3⟩ := gx_bind hm
     refine G_meet (fun a w' => Mem (idsOf [u]) w w' [u] ∧ Sat Try.f106.ntmps [(0, .slice b n.length d), (2, iv k), (4, .func (.func 85) #[] #[]), (14, iv cl.1), (15, iv cl.2)] a) ?_ ?_
     ·have hm := fl
      rcases gx_bif hm with ⟨au, hm⟩ | ⟨au, hm⟩
      ·refine gT au (G_region (wR 3 [(0, .slice b n.length d), (2, iv k), (4, .func (.func 85) #[] #[]), (14, iv (w64 ((w64 ((IntKind.u64.wrap (w64 (y.1 + y.2))).fdiv (2 ^ 1))) + 1))), (15, iv y.2)] cy (W_nil ?_)))
       obtain rfl := Option.some.inj hm
       exact N_meet fun a ha => ⟨bk.pk [0], ha.s⟩
      refine gF au (G_region (wR 2 [(0, .slice b n.length d), (2, iv k), (4, .func (.func 85) #[] #[]), (14, iv y.1), (15, iv (w64 ((IntKind.u64.wrap (w64 (y.1 + y.2))).fdiv (2 ^ 1))))] cy (W_nil ?_)))
      obtain rfl := Option.some.inj hm
      exact N_meet fun a ha => ⟨bk.pk [0], ha.s⟩
     intro h3 io ⟨dq, ek⟩
     refine N_use ek ?_
     have hm := e3
     refine N_block ?_
     obtain rfl := Option.some.inj hm
     exact N_loop fun a ha => ⟨_, rfl, dq.pk [0], ha.s⟩
    refine gF ar (G_exit (N_then_exit (N_then_exit (N_block_eq ?_))))
    obtain rfl := Option.some.inj hm
    obtain rfl := f3 _ rfl
    exact N_meet fun a ha => ⟨bj.pk [0], ha.s⟩
   intro h4 g9 ⟨dr, el⟩
   refine N_use el ?_
   have hm := fe
   refine N_then (G_seq (G_seq (G_region (wR 2 [(0, .slice b n.length d), (14, iv T), (17, iv k)] g9 (W_nil (N_then ?_))))))
   obtain ⟨cp, gf, ff⟩ := gx_bind hm
   refine G_meet (fun a w' => ∃ (aj : Seg), ownS encEvent cp b d aj ∧ cp.length = n.length ∧ Mem (idsOf [u]) w w' [aj] ∧ Sat Try.f106.ntmps [] a) ?_ ?_
   ·refine G_block (G_while (σ := Int × List Event) (ρ := List Event) (fun m a w' => ∃ (X : Seg), ownS encEvent m.2 b d X ∧ m.2.length = n.length ∧ Mem (idsOf [u]) w w' [X] ∧ Sat Try.f106.ntmps [(0, .slice b m.2.length d), (14, iv T), (17, iv m.1)] a) gf (fun a ha => ⟨u, D, rfl, dr.pk [0], ha.s⟩) ?_)
    clear hm
    intro m iz hm f4 h5 cz ⟨X, V, bz, bl, em⟩
    refine G_use em (G_seq (G_seq (G_region (wR 3 [(0, .slice b m.2.length d), (14, iv T), (17, iv m.1), (110, .bool (decide (m.1 > T)))] cz (W_nil (N_then ?_))))))
    rcases gx_bif hm with ⟨av, hm⟩ | ⟨av, hm⟩
    ·refine gT av (G_skip (N_then (G_seq (G_block ?_))))
     obtain ⟨A, ce, hm⟩ := gx_bind hm
     obtain ⟨C, cf, hm⟩ := gx_bind hm
     obtain ⟨hv, cg, hm⟩ := gx_bind hm
     have ds : Mem (idsOf [u]) w cz ([] ++ (List.range 16).map (fun i => ([[], [], [], [], [], [], [], [], [], [], [], [], [], [], [], X] : List Seg).getD i [])) := bl.pk [300000, 300001, 300002, 300003, 300004, 300005, 300006, 300007, 300008, 300009, 300010, 300011, 300012, 300013, 300014, 0]
     refine G_sub [(0, .slice b m.2.length d), (14, iv T), (17, iv m.1), (110, .bool (decide (m.1 > T)))] (by kernel_rfl) (G_dagL 16 [[], [], [], [], [3], [], [], [6], [5, 7], [8], [], [], [10, 11], [12], [0, 1], [9, 14]] [[], [], [], [], [], [], [], [], [], [], [], [], [], [], [], []] [[], [], [], [], [], [], [], [], [], [], [], [], [], [], [], []] [[], [], [], [], [], [], [], [], [], [], [], [], [], [], [], []] [[], [], [], [], [], [], [], [], [], [], [], [], [], [], [], []] [[], [], [], [], [], [], [], [], [15], [15], [], [], [15], [15], [15], []] (fun i => ([[], [], [], [], [], [], [], [], [], [], [], [], [], [], [], X] : List Seg).getD i []) (fun i => ([fun f v s => v = (.slice b m.2.length d : Value) ∧ s = [], fun f v s => v = (iv m.1 : Value) ∧ s = [], fun f v s => v = (.slice b m.2.length d : Value) ∧ s = [], fun f v s => v = (iv m.1 : Value) ∧ s = [], fun f v s => v = (iv (w64 (m.1 - 1)) : Value) ∧ s = [], fun f v s => v = (.slice b m.2.length d : Value) ∧ s = [], fun f v s => v = (iv m.1 : Value) ∧ s = [], fun f v s => v = (iv (w64 (m.1 - 1)) : Value) ∧ s = [], fun f v s => v = (elemP b ((w64 (m.1 - 1)).toNat * 4) : Value) ∧ s = [], fun f v s => v = (.agg #[iv A.Tick, iv A.Guest, .string A.Kind, iv A.Value] : Value) ∧ s = [], fun f v s => v = (.slice b m.2.length d : Value) ∧ s = [], fun f v s => v = (iv m.1 : Value) ∧ s = [], fun f v s => v = (elemP b (m.1.toNat * 4) : Value) ∧ s = [], fun f v s => v = (.agg #[iv C.Tick, iv C.Guest, .string C.Kind, iv C.Value] : Value) ∧ s = [], fun f v s => v = (elemP b (m.1.toNat * 4) : Value) ∧ s = [], fun f v s => v = undef ∧ ownS encEvent (m.2.set m.1.toNat A) b d s] : List ((Nat → Value) → Value → Seg → Prop)).getD i (fun _ _ _ => False)) (fun j f v => ∃ s, (fun i => ([fun f v s => v = (.slice b m.2.length d : Value) ∧ s = [], fun f v s => v = (iv m.1 : Value) ∧ s = [], fun f v s => v = (.slice b m.2.length d : Value) ∧ s = [], fun f v s => v = (iv m.1 : Value) ∧ s = [], fun f v s => v = (iv (w64 (m.1 - 1)) : Value) ∧ s = [], fun f v s => v = (.slice b m.2.length d : Value) ∧ s = [], fun f v s => v = (iv m.1 : Value) ∧ s = [], fun f v s => v = (iv (w64 (m.1 - 1)) : Value) ∧ s = [], fun f v s => v = (elemP b ((w64 (m.1 - 1)).toNat * 4) : Value) ∧ s = [], fun f v s => v = (.agg #[iv A.Tick, iv A.Guest, .string A.Kind, iv A.Value] : Value) ∧ s = [], fun f v s => v = (.slice b m.2.length d : Value) ∧ s = [], fun f v s => v = (iv m.1 : Value) ∧ s = [], fun f v s => v = (elemP b (m.1.toNat * 4) : Value) ∧ s = [], fun f v s => v = (.agg #[iv C.Tick, iv C.Guest, .string C.Kind, iv C.Value] : Value) ∧ s = [], fun f v s => v = (elemP b (m.1.toNat * 4) : Value) ∧ s = [], fun f v s => v = undef ∧ ownS encEvent (m.2.set m.1.toNat A) b d s] : List ((Nat → Value) → Value → Seg → Prop)).getD i (fun _ _ _ => False)) j f v s) [] [2, 4, 13, 15] [15] (fun _ _ _ s h => ⟨s, h⟩) (by kernel_rfl) (by kernel_rfl) ds (by kernel_rfl) (by kernel_rfl) (by kernel_rfl) (by kernel_rfl) (allOb_cons ?_ (allOb_cons ?_ (allOb_cons ?_ (allOb_cons ?_ (allOb_cons ?_ (allOb_cons ?_ (allOb_cons ?_ (allOb_cons ?_ (allOb_cons ?_ (allOb_cons ?_ (allOb_cons ?_ (allOb_cons ?_ (allOb_cons ?_ (allOb_cons ?_ (allOb_cons ?_ (allOb_cons ?_ allOb_nil)))))))))))))))) ?_)
     ·intro F H
      intro R hb dt
      exact wR 1 [(113, .slice b m.2.length d)] hb (W_nil (oE (.slice b m.2.length d) [] ⟨by kernel_rfl, rfl⟩ dt))
     ·intro F H
      intro R hc du
      exact wR 1 [(114, iv m.1)] hc (W_nil (oE (iv m.1) [] ⟨by kernel_rfl, rfl⟩ du))
     ·intro F H
      intro R hd dv
      exact wR 1 [(115, .slice b m.2.length d)] hd (W_nil (oE (.slice b m.2.length d) [] ⟨by kernel_rfl, rfl⟩ dv))
     ·intro F H
      intro R he dw
      exact wR 1 [(116, iv m.1)] he (W_nil (oE (iv m.1) [] ⟨by kernel_rfl, rfl⟩ dw))
     ·intro F H
      intro v3_ hb3_
      obtain ⟨rfl, _⟩ := hb3_
      intro R hf dx
      exact wR 1 [(117, iv (w64 (m.1 - 1)))] hf (W_nil (oE (iv (w64 (m.1 - 1))) [] ⟨by kernel_rfl, rfl⟩ dx))
     ·intro F H
      intro R hg dy
      exact wR 1 [(118, .slice b m.2.length d)] hg (W_nil (oE (.slice b m.2.length d) [] ⟨by kernel_rfl, rfl⟩ dy))
     ·intro F H
      intro R hh dz
      exact wR 1 [(119, iv m.1)] hh (W_nil (oE (iv m.1) [] ⟨by kernel_rfl, rfl⟩ dz))
     ·intro F H
      intro v6_ hb6_
      obtain ⟨rfl, _⟩ := hb6_
      intro R hi d0
      exact wR 1 [(120, iv (w64 (m.1 - 1)))] hi (W_nil (oE (iv (w64 (m.1 - 1))) [] ⟨by kernel_rfl, rfl⟩ d0))
     ·intro F H
      intro v5_ hb5_
      obtain ⟨rfl, _⟩ := hb5_
      intro v7_ hb7_
      obtain ⟨rfl, _⟩ := hb7_
      intro R hj bm
      exact wV (elemP b ((w64 (m.1 - 1)).toNat * 4)) hj (eI (V.rd bm 1 (by kernel_rfl)) rfl ce) (W_nil (oE (elemP b ((w64 (m.1 - 1)).toNat * 4)) [] ⟨by kernel_rfl, rfl⟩ bm))
     ·intro F H
      intro v8_ hb8_
      obtain ⟨rfl, _⟩ := hb8_
      intro R hk bn
      exact wV (.agg #[iv A.Tick, iv A.Guest, .string A.Kind, iv A.Value]) hk (eE true 4 0 ((w64 (m.1 - 1)).toNat * 4) (V.rd bn 1 (by kernel_rfl)) ce) (W_nil (oE (.agg #[iv A.Tick, iv A.Guest, .string A.Kind, iv A.Value]) [] ⟨by kernel_rfl, rfl⟩ bn))
     ·intro F H
      intro R hl d1
      exact wR 1 [(123, .slice b m.2.length d)] hl (W_nil (oE (.slice b m.2.length d) [] ⟨by kernel_rfl, rfl⟩ d1))
     ·intro F H
      intro R hn d2
      exact wR 1 [(124, iv m.1)] hn (W_nil (oE (iv m.1) [] ⟨by kernel_rfl, rfl⟩ d2))
     ·intro F H
      intro v10_ hb10_
      obtain ⟨rfl, _⟩ := hb10_
      intro v11_ hb11_
      obtain ⟨rfl, _⟩ := hb11_
      intro R ho bo
      exact wV (elemP b (m.1.toNat * 4)) ho (eI (V.rd bo 1 (by kernel_rfl)) rfl cf) (W_nil (oE (elemP b (m.1.toNat * 4)) [] ⟨by kernel_rfl, rfl⟩ bo))
     ·intro F H
      intro v12_ hb12_
      obtain ⟨rfl, _⟩ := hb12_
      intro R hp bp
      exact wV (.agg #[iv C.Tick, iv C.Guest, .string C.Kind, iv C.Value]) hp (eE true 4 0 (m.1.toNat * 4) (V.rd bp 1 (by kernel_rfl)) cf) (W_nil (oE (.agg #[iv C.Tick, iv C.Guest, .string C.Kind, iv C.Value]) [] ⟨by kernel_rfl, rfl⟩ bp))
     ·intro F H
      intro v0_ hb0_
      obtain ⟨rfl, _⟩ := hb0_
      intro v1_ hb1_
      obtain ⟨rfl, _⟩ := hb1_
      intro R hq bq
      exact wV (elemP b (m.1.toNat * 4)) hq (eI (V.rd bq 1 (by kernel_rfl)) rfl cg) (W_nil (oE (elemP b (m.1.toNat * 4)) [] ⟨by kernel_rfl, rfl⟩ bq))
     ·intro F H
      intro v9_ hb9_
      obtain ⟨rfl, _⟩ := hb9_
      intro v14_ hb14_
      obtain ⟨rfl, _⟩ := hb14_
      intro R ip d3
      refine wE true 4 m.1.toNat 0 (m.1.toNat * 4) hv A (.agg #[iv A.Tick, iv A.Guest, .string A.Kind, iv A.Value]) 0 d3 V (gxIdx_spec cg).2 ?_
      intro iq gn fn d4
      exact W_nil (ob_none gn rfl ⟨rfl, fn⟩ d4)
     intro F H
     intro v2_ hb2_
     obtain ⟨rfl, _⟩ := hb2_
     intro v4_ hb4_
     obtain ⟨rfl, _⟩ := hb4_
     intro v13_ hb13_
     obtain ⟨rfl, _⟩ := hb13_
     intro v15_ hb15_
     obtain ⟨rfl, b3⟩ := hb15_
     intro c0 d5
     have br : Mem (idsOf [u]) w c0 [(F 15)] := d5
     refine wX 0 (.slice b m.2.length d) (.slice b (m.2.set m.1.toNat A).length d) (by rw [@List.length_set _ m.2 m.1.toNat A]) (wX 115 (.slice b m.2.length d) (.slice b (m.2.set m.1.toNat A).length d) (by rw [@List.length_set _ m.2 m.1.toNat A]) ?_)
     obtain ⟨hw, ch, hm⟩ := gx_bind hm
     refine wV (elemP b ((w64 (m.1 - 1)).toNat * 4)) c0 (eI (b3.rd br 0 (by kernel_rfl)) rfl ch) (wE true 4 (w64 (m.1 - 1)).toNat 0 ((w64 (m.1 - 1)).toNat * 4) hw C (.agg #[iv C.Tick, iv C.Guest, .string C.Kind, iv C.Value]) 0 br b3 (gxIdx_spec ch).2 ?_)
     intro hr go fo d6
     refine wX 0 (.slice b (m.2.set m.1.toNat A).length d) (.slice b ((m.2.set m.1.toNat A).set (w64 (m.1 - 1)).toNat C).length d) (by rw [@List.length_set _ (m.2.set m.1.toNat A) ((w64 (m.1 - 1)).toNat) C]) (wX 115 (.slice b (m.2.set m.1.toNat A).length d) (.slice b ((m.2.set m.1.toNat A).set (w64 (m.1 - 1)).toNat C).length d) (by rw [@List.length_set _ (m.2.set m.1.toNat A) ((w64 (m.1 - 1)).toNat) C]) (W_nil (N_block (N_then (G_region (wR 3 [(0, .slice b ((m.2.set m.1.toNat A).set (w64 (m.1 - 1)).toNat C).length d), (14, iv T), (17, iv (w64 (m.1 - 1)))] hr (W_nil ?_)))))))
     obtain rfl := Option.some.inj hm
     exact N_loop fun a ha => ⟨_, rfl, go, fo, (List.length_set.trans (List.length_set.trans bz)), d6.pk [0], ha.s⟩
    refine gF av (G_exit (N_then_exit (N_then_exit (N_block_eq ?_))))
    obtain rfl := Option.some.inj hm
    obtain rfl := f4 _ rfl
    exact N_meet fun a ha => ⟨X, V, bz, bl.pk [0], ha.s⟩
   intro h6 ir ⟨aj, fm, e0, d7, en⟩
   refine N_use en ?_
   have hm := ff
   refine N_then (G_ret (N_then_ret ?_))
   obtain rfl := Option.some.inj hm
   exact N_ret [] (RVs_nil) (⟨aj, rfl, fm, e0, d7.pk [0]⟩)
  refine gF aq (G_skip (N_then (G_seq (G_region (wR 7 [(0, .slice b n.length d), (1, iv c), (2, iv k), (3, iv g), (4, .func (.func 85) #[] #[]), (18, iv (w64 ((IntKind.u64.wrap (w64 (c + g))).fdiv (2 ^ 1))))] w (W_nil (N_then (G_seq (G_region (wR 4 [(0, .slice b n.length d), (1, iv c), (2, iv k), (3, iv g), (4, .func (.func 85) #[] #[]), (18, iv (w64 ((IntKind.u64.wrap (w64 (c + g))).fdiv (2 ^ 1)))), (19, iv (w64 ((w64 ((IntKind.u64.wrap (w64 (c + g))).fdiv (2 ^ 1))) + k)))] w (W_nil (N_then (G_seq (G_region (wR 2 [(0, .slice b n.length d), (1, iv c), (2, iv k), (3, iv g), (4, .func (.func 85) #[] #[]), (18, iv (w64 ((IntKind.u64.wrap (w64 (c + g))).fdiv (2 ^ 1)))), (19, iv (w64 ((w64 ((IntKind.u64.wrap (w64 (c + g))).fdiv (2 ^ 1))) + k)))] w ?_)))))))))))))))
  refine W_nil (N_then (G_seq (G_seq (G_region (wR 3 [(0, .slice b n.length d), (1, iv c), (2, iv k), (3, iv g), (4, .func (.func 85) #[] #[]), (18, iv (w64 ((IntKind.u64.wrap (w64 (c + g))).fdiv (2 ^ 1)))), (19, iv (w64 ((w64 ((IntKind.u64.wrap (w64 (c + g))).fdiv (2 ^ 1))) + k))), (140, .bool (decide (k > (w64 ((IntKind.u64.wrap (w64 (c + g))).fdiv (2 ^ 1))))))] w (W_nil (N_then ?_)))))))
  obtain ⟨af, fp, e4⟩ := gx_bind hm
  refine G_meet (fun a w' => Mem (idsOf [u]) w w' [u] ∧ Sat Try.f106.ntmps [(0, .slice b n.length d), (1, iv c), (2, iv k), (3, iv g), (4, .func (.func 85) #[] #[]), (18, iv (w64 ((IntKind.u64.wrap (w64 (c + g))).fdiv (2 ^ 1)))), (19, iv (w64 ((w64 ((IntKind.u64.wrap (w64 (c + g))).fdiv (2 ^ 1))) + k))), (20, iv af.1), (21, iv af.2)] a) ?_ ?_
  ·have hm := fp
   rcases gx_bif hm with ⟨aw, hm⟩ | ⟨aw, hm⟩
   ·refine gT aw (G_seq (G_region (wR 4 [(0, .slice b n.length d), (1, iv c), (2, iv k), (3, iv g), (4, .func (.func 85) #[] #[]), (18, iv (w64 ((IntKind.u64.wrap (w64 (c + g))).fdiv (2 ^ 1)))), (19, iv (w64 ((w64 ((IntKind.u64.wrap (w64 (c + g))).fdiv (2 ^ 1))) + k))), (20, iv (w64 ((w64 ((w64 ((IntKind.u64.wrap (w64 (c + g))).fdiv (2 ^ 1))) + k)) - g)))] w (W_nil (N_then (G_region (wR 2 [(0, .slice b n.length d), (1, iv c), (2, iv k), (3, iv g), (4, .func (.func 85) #[] #[]), (18, iv (w64 ((IntKind.u64.wrap (w64 (c + g))).fdiv (2 ^ 1)))), (19, iv (w64 ((w64 ((IntKind.u64.wrap (w64 (c + g))).fdiv (2 ^ 1))) + k))), (20, iv (w64 ((w64 ((w64 ((IntKind.u64.wrap (w64 (c + g))).fdiv (2 ^ 1))) + k)) - g))), (21, iv (w64 ((IntKind.u64.wrap (w64 (c + g))).fdiv (2 ^ 1))))] w (W_nil ?_))))))))
    obtain rfl := Option.some.inj hm
    exact N_meet fun a ha => ⟨M0.pk [0], ha.s⟩
   refine gF aw (G_seq (G_region (wR 2 [(0, .slice b n.length d), (1, iv c), (2, iv k), (3, iv g), (4, .func (.func 85) #[] #[]), (18, iv (w64 ((IntKind.u64.wrap (w64 (c + g))).fdiv (2 ^ 1)))), (19, iv (w64 ((w64 ((IntKind.u64.wrap (w64 (c + g))).fdiv (2 ^ 1))) + k))), (20, iv c)] w (W_nil (N_then (G_region (wR 2 [(0, .slice b n.length d), (1, iv c), (2, iv k), (3, iv g), (4, .func (.func 85) #[] #[]), (18, iv (w64 ((IntKind.u64.wrap (w64 (c + g))).fdiv (2 ^ 1)))), (19, iv (w64 ((w64 ((IntKind.u64.wrap (w64 (c + g))).fdiv (2 ^ 1))) + k))), (20, iv c), (21, iv k)] w (W_nil ?_))))))))
   obtain rfl := Option.some.inj hm
   exact N_meet fun a ha => ⟨M0.pk [0], ha.s⟩
  intro h7 hs ⟨d8, eo⟩
  refine N_use eo ?_
  have hm := e4
  refine N_then (G_seq (G_region (wR 3 [(0, .slice b n.length d), (1, iv c), (2, iv k), (3, iv g), (4, .func (.func 85) #[] #[]), (18, iv (w64 ((IntKind.u64.wrap (w64 (c + g))).fdiv (2 ^ 1)))), (19, iv (w64 ((w64 ((IntKind.u64.wrap (w64 (c + g))).fdiv (2 ^ 1))) + k))), (20, iv af.1), (21, iv af.2), (22, iv (w64 ((w64 ((w64 ((IntKind.u64.wrap (w64 (c + g))).fdiv (2 ^ 1))) + k)) - 1)))] hs (W_nil (N_then (G_seq ?_))))))
  obtain ⟨o, gg, fg⟩ := gx_bind hm
  refine G_meet (fun a w' => Mem (idsOf [u]) w w' [u] ∧ Sat Try.f106.ntmps [(0, .slice b n.length d), (1, iv c), (2, iv k), (3, iv g), (4, .func (.func 85) #[] #[]), (18, iv (w64 ((IntKind.u64.wrap (w64 (c + g))).fdiv (2 ^ 1)))), (19, iv (w64 ((w64 ((IntKind.u64.wrap (w64 (c + g))).fdiv (2 ^ 1))) + k))), (20, iv o)] a) ?_ ?_
  ·refine G_block (G_while (σ := Int × Int) (ρ := Int) (fun t a w' => Mem (idsOf [u]) w w' [u] ∧ Sat Try.f106.ntmps [(0, .slice b n.length d), (1, iv c), (2, iv k), (3, iv g), (4, .func (.func 85) #[] #[]), (18, iv (w64 ((IntKind.u64.wrap (w64 (c + g))).fdiv (2 ^ 1)))), (19, iv (w64 ((w64 ((IntKind.u64.wrap (w64 (c + g))).fdiv (2 ^ 1))) + k))), (20, iv t.1), (21, iv t.2), (22, iv (w64 ((w64 ((w64 ((IntKind.u64.wrap (w64 (c + g))).fdiv (2 ^ 1))) + k)) - 1)))] a) gg (fun a ha => ⟨d8.pk [0], ha.s⟩) ?_)
   clear hm
   intro t i0 hm f5 h8 c1 ⟨bs, ep⟩
   refine G_use ep (G_seq (G_seq (G_region (wR 3 [(0, .slice b n.length d), (1, iv c), (2, iv k), (3, iv g), (4, .func (.func 85) #[] #[]), (18, iv (w64 ((IntKind.u64.wrap (w64 (c + g))).fdiv (2 ^ 1)))), (19, iv (w64 ((w64 ((IntKind.u64.wrap (w64 (c + g))).fdiv (2 ^ 1))) + k))), (20, iv t.1), (21, iv t.2), (22, iv (w64 ((w64 ((w64 ((IntKind.u64.wrap (w64 (c + g))).fdiv (2 ^ 1))) + k)) - 1))), (151, .bool (decide (t.1 < t.2)))] c1 (W_nil (N_then ?_))))))
   rcases gx_bif hm with ⟨ax, hm⟩ | ⟨ax, hm⟩
   ·refine gT ax (G_skip (N_then (G_block (G_seq (G_region (wR 7 [(0, .slice b n.length d), (1, iv c), (2, iv k), (3, iv g), (4, .func (.func 85) #[] #[]), (18, iv (w64 ((IntKind.u64.wrap (w64 (c + g))).fdiv (2 ^ 1)))), (19, iv (w64 ((w64 ((IntKind.u64.wrap (w64 (c + g))).fdiv (2 ^ 1))) + k))), (20, iv t.1), (21, iv t.2), (22, iv (w64 ((w64 ((w64 ((IntKind.u64.wrap (w64 (c + g))).fdiv (2 ^ 1))) + k)) - 1))), (23, iv (w64 ((IntKind.u64.wrap (w64 (t.1 + t.2))).fdiv (2 ^ 1))))] c1 (W_nil (N_then (G_seq (G_quiet (by kernel_rfl) (by kernel_rfl) bs (zR [.func (.func 85) #[] #[], .slice b n.length d, iv (w64 ((w64 ((w64 ((IntKind.u64.wrap (w64 (c + g))).fdiv (2 ^ 1))) + k)) - 1)), iv (w64 ((IntKind.u64.wrap (w64 (t.1 + t.2))).fdiv (2 ^ 1))), iv (w64 ((w64 ((w64 ((w64 ((IntKind.u64.wrap (w64 (c + g))).fdiv (2 ^ 1))) + k)) - 1)) - (w64 ((IntKind.u64.wrap (w64 (t.1 + t.2))).fdiv (2 ^ 1)))))] [(0, .slice b n.length d), (1, iv c), (2, iv k), (3, iv g), (4, .func (.func 85) #[] #[]), (18, iv (w64 ((IntKind.u64.wrap (w64 (c + g))).fdiv (2 ^ 1)))), (19, iv (w64 ((w64 ((IntKind.u64.wrap (w64 (c + g))).fdiv (2 ^ 1))) + k))), (20, iv t.1), (21, iv t.2), (22, iv (w64 ((w64 ((w64 ((IntKind.u64.wrap (w64 (c + g))).fdiv (2 ^ 1))) + k)) - 1))), (23, iv (w64 ((IntKind.u64.wrap (w64 (t.1 + t.2))).fdiv (2 ^ 1)))), (158, .func (.func 85) #[] #[]), (159, .slice b n.length d), (162, iv (w64 ((w64 ((w64 ((w64 ((IntKind.u64.wrap (w64 (c + g))).fdiv (2 ^ 1))) + k)) - 1)) - (w64 ((IntKind.u64.wrap (w64 (t.1 + t.2))).fdiv (2 ^ 1))))))] ?_)))))))))))
    obtain ⟨L, ci, hm⟩ := gx_bind hm
    refine zV (elemP b ((w64 ((w64 ((w64 ((w64 ((IntKind.u64.wrap (w64 (c + g))).fdiv (2 ^ 1))) + k)) - 1)) - (w64 ((IntKind.u64.wrap (w64 (t.1 + t.2))).fdiv (2 ^ 1))))).toNat * 4)) (fun w_ M_ => (eI (D.rd M_ 0 (by kernel_rfl)) rfl ci)) (zV (.agg #[iv L.Tick, iv L.Guest, .string L.Kind, iv L.Value]) (fun w_ M_ => (eE true 4 0 ((w64 ((w64 ((w64 ((w64 ((IntKind.u64.wrap (w64 (c + g))).fdiv (2 ^ 1))) + k)) - 1)) - (w64 ((IntKind.u64.wrap (w64 (t.1 + t.2))).fdiv (2 ^ 1))))).toNat * 4) (D.rd M_ 0 (by kernel_rfl)) ci)) (zR [.slice b n.length d, iv (w64 ((IntKind.u64.wrap (w64 (t.1 + t.2))).fdiv (2 ^ 1)))] [(0, .slice b n.length d), (1, iv c), (2, iv k), (3, iv g), (4, .func (.func 85) #[] #[]), (18, iv (w64 ((IntKind.u64.wrap (w64 (c + g))).fdiv (2 ^ 1)))), (19, iv (w64 ((w64 ((IntKind.u64.wrap (w64 (c + g))).fdiv (2 ^ 1))) + k))), (20, iv t.1), (21, iv t.2), (22, iv (w64 ((w64 ((w64 ((IntKind.u64.wrap (w64 (c + g))).fdiv (2 ^ 1))) + k)) - 1))), (23, iv (w64 ((IntKind.u64.wrap (w64 (t.1 + t.2))).fdiv (2 ^ 1)))), (158, .func (.func 85) #[] #[]), (164, .agg #[iv L.Tick, iv L.Guest, .string L.Kind, iv L.Value]), (165, .slice b n.length d), (166, iv (w64 ((IntKind.u64.wrap (w64 (t.1 + t.2))).fdiv (2 ^ 1))))] ?_))
    obtain ⟨Q, cj, hm⟩ := gx_bind hm
    refine zV (elemP b ((w64 ((IntKind.u64.wrap (w64 (t.1 + t.2))).fdiv (2 ^ 1))).toNat * 4)) (fun w_ M_ => (eI (D.rd M_ 0 (by kernel_rfl)) rfl cj)) (zV (.agg #[iv Q.Tick, iv Q.Guest, .string Q.Kind, iv Q.Value]) (fun w_ M_ => (eE true 4 0 ((w64 ((IntKind.u64.wrap (w64 (t.1 + t.2))).fdiv (2 ^ 1))).toNat * 4) (D.rd M_ 0 (by kernel_rfl)) cj)) ?_)
    obtain ⟨ah, f8, hm⟩ := gx_bind hm
    refine Z_call 85 #[.agg #[iv L.Tick, iv L.Guest, .string L.Kind, iv L.Value], .agg #[iv Q.Tick, iv Q.Guest, .string Q.Kind, iv Q.Value]] (iv ah) (by kernel_rfl) (fun w_ => by kernel_rfl) (fun w_ M_ => (c_i_merged_1 w_ L Q f8).mono fun e w2_ h_ => ⟨h_.1, M_.call0 h_.2⟩) (zR [.bool (decide (ah < 0)), .bool (!(decide (ah < 0)))] [(0, .slice b n.length d), (1, iv c), (2, iv k), (3, iv g), (4, .func (.func 85) #[] #[]), (18, iv (w64 ((IntKind.u64.wrap (w64 (c + g))).fdiv (2 ^ 1)))), (19, iv (w64 ((w64 ((IntKind.u64.wrap (w64 (c + g))).fdiv (2 ^ 1))) + k))), (20, iv t.1), (21, iv t.2), (22, iv (w64 ((w64 ((w64 ((IntKind.u64.wrap (w64 (c + g))).fdiv (2 ^ 1))) + k)) - 1))), (23, iv (w64 ((IntKind.u64.wrap (w64 (t.1 + t.2))).fdiv (2 ^ 1)))), (171, .bool (!(decide (ah < 0))))] (Z_end fun c2 bt => (N_then ?_)))
    obtain ⟨cm, fq, e5⟩ := gx_bind hm
    refine G_meet (fun a w' => Mem (idsOf [u]) w w' [u] ∧ Sat Try.f106.ntmps [(0, .slice b n.length d), (1, iv c), (2, iv k), (3, iv g), (4, .func (.func 85) #[] #[]), (18, iv (w64 ((IntKind.u64.wrap (w64 (c + g))).fdiv (2 ^ 1)))), (19, iv (w64 ((w64 ((IntKind.u64.wrap (w64 (c + g))).fdiv (2 ^ 1))) + k))), (20, iv cm.1), (21, iv cm.2), (22, iv (w64 ((w64 ((w64 ((IntKind.u64.wrap (w64 (c + g))).fdiv (2 ^ 1))) + k)) - 1)))] a) ?_ ?_
    ·have hm := fq
     rcases gx_bif hm with ⟨ay, hm⟩ | ⟨ay, hm⟩
     ·refine gT ay (G_region (wR 3 [(0, .slice b n.length d), (1, iv c), (2, iv k), (3, iv g), (4, .func (.func 85) #[] #[]), (18, iv (w64 ((IntKind.u64.wrap (w64 (c + g))).fdiv (2 ^ 1)))), (19, iv (w64 ((w64 ((IntKind.u64.wrap (w64 (c + g))).fdiv (2 ^ 1))) + k))), (20, iv (w64 ((w64 ((IntKind.u64.wrap (w64 (t.1 + t.2))).fdiv (2 ^ 1))) + 1))), (21, iv t.2), (22, iv (w64 ((w64 ((w64 ((IntKind.u64.wrap (w64 (c + g))).fdiv (2 ^ 1))) + k)) - 1)))] c2 (W_nil ?_)))
      obtain rfl := Option.some.inj hm
      exact N_meet fun a ha => ⟨bt.pk [0], ha.s⟩
     refine gF ay (G_region (wR 2 [(0, .slice b n.length d), (1, iv c), (2, iv k), (3, iv g), (4, .func (.func 85) #[] #[]), (18, iv (w64 ((IntKind.u64.wrap (w64 (c + g))).fdiv (2 ^ 1)))), (19, iv (w64 ((w64 ((IntKind.u64.wrap (w64 (c + g))).fdiv (2 ^ 1))) + k))), (20, iv t.1), (21, iv (w64 ((IntKind.u64.wrap (w64 (t.1 + t.2))).fdiv (2 ^ 1)))), (22, iv (w64 ((w64 ((w64 ((IntKind.u64.wrap (w64 (c + g))).fdiv (2 ^ 1))) + k)) - 1)))] c2 (W_nil ?_)))
     obtain rfl := Option.some.inj hm
     exact N_meet fun a ha => ⟨bt.pk [0], ha.s⟩
    intro h9 it ⟨d9, er⟩
    refine N_use er ?_
    have hm := e5
    refine N_block ?_
    obtain rfl := Option.some.inj hm
    exact N_loop fun a ha => ⟨_, rfl, d9.pk [0], ha.s⟩
   refine gF ax (G_exit (N_then_exit (N_then_exit (N_block_eq ?_))))
   obtain rfl := Option.some.inj hm
   obtain rfl := f5 _ rfl
   exact N_meet fun a ha => ⟨bs.pk [0], ha.s⟩
  intro ia al ⟨bu, es⟩
  refine N_use es ?_
  have hm := fg
  refine N_then (G_seq (G_region (wR 4 [(0, .slice b n.length d), (1, iv c), (2, iv k), (3, iv g), (4, .func (.func 85) #[] #[]), (18, iv (w64 ((IntKind.u64.wrap (w64 (c + g))).fdiv (2 ^ 1)))), (20, iv o), (24, iv (w64 ((w64 ((w64 ((IntKind.u64.wrap (w64 (c + g))).fdiv (2 ^ 1))) + k)) - o)))] al (W_nil (N_then (G_seq (G_seq ?_)))))))
  obtain ⟨gh, fr, e6⟩ := gx_bind hm
  refine G_meet (fun a w' => Mem (idsOf [u]) w w' [u] ∧ Sat Try.f106.ntmps [(0, .slice b n.length d), (1, iv c), (2, iv k), (3, iv g), (4, .func (.func 85) #[] #[]), (18, iv (w64 ((IntKind.u64.wrap (w64 (c + g))).fdiv (2 ^ 1)))), (20, iv o), (24, iv (w64 ((w64 ((w64 ((IntKind.u64.wrap (w64 (c + g))).fdiv (2 ^ 1))) + k)) - o))), (185, .bool gh)] a) ?_ ?_
  ·have hm := fr
   refine G_region (wR 4 [(0, .slice b n.length d), (1, iv c), (2, iv k), (3, iv g), (4, .func (.func 85) #[] #[]), (18, iv (w64 ((IntKind.u64.wrap (w64 (c + g))).fdiv (2 ^ 1)))), (20, iv o), (24, iv (w64 ((w64 ((w64 ((IntKind.u64.wrap (w64 (c + g))).fdiv (2 ^ 1))) + k)) - o))), (181, .bool (decide (o < k)))] al ?_)
   rcases gx_bif hm with ⟨az, hm⟩ | ⟨az, hm⟩
   ·refine wK 181 true az (wR 4 [(0, .slice b n.length d), (1, iv c), (2, iv k), (3, iv g), (4, .func (.func 85) #[] #[]), (18, iv (w64 ((IntKind.u64.wrap (w64 (c + g))).fdiv (2 ^ 1)))), (20, iv o), (24, iv (w64 ((w64 ((w64 ((IntKind.u64.wrap (w64 (c + g))).fdiv (2 ^ 1))) + k)) - o))), (185, .bool (decide (k < (w64 ((w64 ((w64 ((IntKind.u64.wrap (w64 (c + g))).fdiv (2 ^ 1))) + k)) - o)))))] al (W_nil ?_))
    obtain rfl := Option.some.inj hm
    exact N_meet fun a ha => ⟨bu.pk [0], ha.s⟩
   refine wK 181 false az (wR 4 [(0, .slice b n.length d), (1, iv c), (2, iv k), (3, iv g), (4, .func (.func 85) #[] #[]), (18, iv (w64 ((IntKind.u64.wrap (w64 (c + g))).fdiv (2 ^ 1)))), (20, iv o), (24, iv (w64 ((w64 ((w64 ((IntKind.u64.wrap (w64 (c + g))).fdiv (2 ^ 1))) + k)) - o))), (185, .bool false)] al (W_nil ?_))
   obtain rfl := Option.some.inj hm
   exact N_meet fun a ha => ⟨bu.pk [0], ha.s⟩
  intro ib c3 ⟨ac, et⟩
  refine N_use et ?_
  have hm := e6
  refine N_then ?_
  obtain ⟨I, fs, e7⟩ := gx_bind hm
  refine G_meet (fun a w' => ∃ (Y : Seg), ownS encEvent I b d Y ∧ I.length = n.length ∧ Mem (idsOf [u]) w w' [Y] ∧ Sat Try.f106.ntmps [(0, .slice b I.length d), (1, iv c), (3, iv g), (4, .func (.func 85) #[] #[]), (18, iv (w64 ((IntKind.u64.wrap (w64 (c + g))).fdiv (2 ^ 1)))), (20, iv o), (24, iv (w64 ((w64 ((w64 ((IntKind.u64.wrap (w64 (c + g))).fdiv (2 ^ 1))) + k)) - o)))] a) ?_ ?_
  ·have hm := fs
   rcases gx_bif hm with ⟨a0, hm⟩ | ⟨a0, hm⟩
   ·refine gT a0 (G_region (wR 5 [(0, .slice b n.length d), (1, iv c), (3, iv g), (4, .func (.func 85) #[] #[]), (18, iv (w64 ((IntKind.u64.wrap (w64 (c + g))).fdiv (2 ^ 1)))), (20, iv o), (24, iv (w64 ((w64 ((w64 ((IntKind.u64.wrap (w64 (c + g))).fdiv (2 ^ 1))) + k)) - o))), (186, .slice b n.length d), (187, iv o), (188, iv k), (189, iv (w64 ((w64 ((w64 ((IntKind.u64.wrap (w64 (c + g))).fdiv (2 ^ 1))) + k)) - o))), (190, .func (.func 85) #[] #[])] c3 ?_))
    obtain ⟨cq, f9, hm⟩ := gx_bind hm
    refine wC 113 #[.slice b n.length d, iv o, iv k, iv (w64 ((w64 ((w64 ((IntKind.u64.wrap (w64 (c + g))).fdiv (2 ^ 1))) + k)) - o)), .func (.func 85) #[] #[]] ((c_slices_rotateCmpFunc_113__i_merged_1 c3 n b d u D o k (w64 ((w64 ((w64 ((IntKind.u64.wrap (w64 (c + g))).fdiv (2 ^ 1))) + k)) - o)) (ac.hasPick [0]) (ac.nodupPick [0] (by kernel_rfl)) f9).mono ?_)
    rintro e_ iu ⟨gp, rfl, ft, aa, c4⟩
    have ea := ac.callF' [0] [] (by kernel_rfl) c4
    refine ⟨_, rfl, ?_⟩
    refine wX 0 (.slice b n.length d) (.slice b cq.length d) (by first | rw [aa] | rw [aa]) (wX 186 (.slice b n.length d) (.slice b cq.length d) (by first | rw [aa] | rw [aa]) (W_nil ?_))
    obtain rfl := Option.some.inj hm
    exact N_meet fun a ha => ⟨gp, ft, (aa.trans rfl), ea.pk [0], ha.s⟩
   refine gF a0 (G_skip ?_)
   obtain rfl := Option.some.inj hm
   exact N_meet fun a ha => ⟨u, D, rfl, ac.pk [0], ha.s⟩
  intro ic a9 ⟨Y, b4, b0, bv, eu⟩
  refine N_use eu ?_
  have hm := e7
  refine N_then (G_seq (G_seq ?_))
  obtain ⟨gi, fu, e8⟩ := gx_bind hm
  refine G_meet (fun a w' => Mem (idsOf [u]) w w' [Y] ∧ Sat Try.f106.ntmps [(0, .slice b I.length d), (1, iv c), (3, iv g), (4, .func (.func 85) #[] #[]), (18, iv (w64 ((IntKind.u64.wrap (w64 (c + g))).fdiv (2 ^ 1)))), (20, iv o), (24, iv (w64 ((w64 ((w64 ((IntKind.u64.wrap (w64 (c + g))).fdiv (2 ^ 1))) + k)) - o))), (199, .bool gi)] a) ?_ ?_
  ·have hm := fu
   refine G_region (wR 4 [(0, .slice b I.length d), (1, iv c), (3, iv g), (4, .func (.func 85) #[] #[]), (18, iv (w64 ((IntKind.u64.wrap (w64 (c + g))).fdiv (2 ^ 1)))), (20, iv o), (24, iv (w64 ((w64 ((w64 ((IntKind.u64.wrap (w64 (c + g))).fdiv (2 ^ 1))) + k)) - o))), (195, .bool (decide (c < o)))] a9 ?_)
   rcases gx_bif hm with ⟨a3, hm⟩ | ⟨a3, hm⟩
   ·refine wK 195 true a3 (wR 4 [(0, .slice b I.length d), (1, iv c), (3, iv g), (4, .func (.func 85) #[] #[]), (18, iv (w64 ((IntKind.u64.wrap (w64 (c + g))).fdiv (2 ^ 1)))), (20, iv o), (24, iv (w64 ((w64 ((w64 ((IntKind.u64.wrap (w64 (c + g))).fdiv (2 ^ 1))) + k)) - o))), (199, .bool (decide (o < (w64 ((IntKind.u64.wrap (w64 (c + g))).fdiv (2 ^ 1))))))] a9 (W_nil ?_))
    obtain rfl := Option.some.inj hm
    exact N_meet fun a ha => ⟨bv.pk [0], ha.s⟩
   refine wK 195 false a3 (wR 4 [(0, .slice b I.length d), (1, iv c), (3, iv g), (4, .func (.func 85) #[] #[]), (18, iv (w64 ((IntKind.u64.wrap (w64 (c + g))).fdiv (2 ^ 1)))), (20, iv o), (24, iv (w64 ((w64 ((w64 ((IntKind.u64.wrap (w64 (c + g))).fdiv (2 ^ 1))) + k)) - o))), (199, .bool false)] a9 (W_nil ?_))
   obtain rfl := Option.some.inj hm
   exact N_meet fun a ha => ⟨bv.pk [0], ha.s⟩
  intro ie w6401 ⟨ad, ev⟩
  refine N_use ev ?_
  have hm := e8
  refine N_then ?_
  obtain ⟨N, fv, e9⟩ := gx_bind hm
  refine G_meet (fun a w' => ∃ (Z : Seg), ownS encEvent N b d Z ∧ N.length = n.length ∧ Mem (idsOf [u]) w w' [Z] ∧ Sat Try.f106.ntmps [(0, .slice b N.length d), (3, iv g), (4, .func (.func 85) #[] #[]), (18, iv (w64 ((IntKind.u64.wrap (w64 (c + g))).fdiv (2 ^ 1)))), (24, iv (w64 ((w64 ((w64 ((IntKind.u64.wrap (w64 (c + g))).fdiv (2 ^ 1))) + k)) - o)))] a) ?_ ?_
  ·have hm := fv
   rcases gx_bif hm with ⟨a4, hm⟩ | ⟨a4, hm⟩
   ·refine gT a4 (G_region (wR 5 [(0, .slice b I.length d), (3, iv g), (4, .func (.func 85) #[] #[]), (18, iv (w64 ((IntKind.u64.wrap (w64 (c + g))).fdiv (2 ^ 1)))), (24, iv (w64 ((w64 ((w64 ((IntKind.u64.wrap (w64 (c + g))).fdiv (2 ^ 1))) + k)) - o))), (200, .slice b I.length d), (201, iv c), (202, iv o), (203, iv (w64 ((IntKind.u64.wrap (w64 (c + g))).fdiv (2 ^ 1)))), (204, .func (.func 85) #[] #[])] w6401 ?_))
    obtain ⟨cr, ga, hm⟩ := gx_bind hm
    refine wC 106 #[.slice b I.length d, iv c, iv o, iv (w64 ((IntKind.u64.wrap (w64 (c + g))).fdiv (2 ^ 1))), .func (.func 85) #[] #[]] ((ih_ w6401 I b d Y b4 c o (w64 ((IntKind.u64.wrap (w64 (c + g))).fdiv (2 ^ 1))) (ad.hasPick [0]) (ad.nodupPick [0] (by kernel_rfl)) ga).mono ?_)
    rintro e_ w6424 ⟨gq, rfl, fw, ab, c5⟩
    have eb := ad.callF' [0] [] (by kernel_rfl) c5
    refine ⟨_, rfl, ?_⟩
    refine wX 0 (.slice b I.length d) (.slice b cr.length d) (by first | rw [ab] | rw [ab]) (wX 200 (.slice b I.length d) (.slice b cr.length d) (by first | rw [ab] | rw [ab]) (W_nil ?_))
    obtain rfl := Option.some.inj hm
    exact N_meet fun a ha => ⟨gq, fw, (ab.trans b0), eb.pk [0], ha.s⟩
   refine gF a4 (G_skip ?_)
   obtain rfl := Option.some.inj hm
   exact N_meet fun a ha => ⟨Y, b4, b0, ad.pk [0], ha.s⟩
  intro ig w6427 ⟨Z, b5, b1, bw, ew⟩
  refine N_use ew ?_
  have hm := e9
  refine N_then (G_seq ?_)
  obtain ⟨gj, fx, fa⟩ := gx_bind hm
  refine G_meet (fun a w' => Mem (idsOf [u]) w w' [Z] ∧ Sat Try.f106.ntmps [(0, .slice b N.length d), (3, iv g), (4, .func (.func 85) #[] #[]), (18, iv (w64 ((IntKind.u64.wrap (w64 (c + g))).fdiv (2 ^ 1)))), (24, iv (w64 ((w64 ((w64 ((IntKind.u64.wrap (w64 (c + g))).fdiv (2 ^ 1))) + k)) - o))), (213, .bool gj)] a) ?_ ?_
  ·have hm := fx
   refine G_region (wR 4 [(0, .slice b N.length d), (3, iv g), (4, .func (.func 85) #[] #[]), (18, iv (w64 ((IntKind.u64.wrap (w64 (c + g))).fdiv (2 ^ 1)))), (24, iv (w64 ((w64 ((w64 ((IntKind.u64.wrap (w64 (c + g))).fdiv (2 ^ 1))) + k)) - o))), (209, .bool (decide ((w64 ((IntKind.u64.wrap (w64 (c + g))).fdiv (2 ^ 1))) < (w64 ((w64 ((w64 ((IntKind.u64.wrap (w64 (c + g))).fdiv (2 ^ 1))) + k)) - o)))))] w6427 ?_)
   rcases gx_bif hm with ⟨a5, hm⟩ | ⟨a5, hm⟩
   ·refine wK 209 true a5 (wR 4 [(0, .slice b N.length d), (3, iv g), (4, .func (.func 85) #[] #[]), (18, iv (w64 ((IntKind.u64.wrap (w64 (c + g))).fdiv (2 ^ 1)))), (24, iv (w64 ((w64 ((w64 ((IntKind.u64.wrap (w64 (c + g))).fdiv (2 ^ 1))) + k)) - o))), (213, .bool (decide ((w64 ((w64 ((w64 ((IntKind.u64.wrap (w64 (c + g))).fdiv (2 ^ 1))) + k)) - o)) < g)))] w6427 (W_nil ?_))
    obtain rfl := Option.some.inj hm
    exact N_meet fun a ha => ⟨bw.pk [0], ha.s⟩
   refine wK 209 false a5 (wR 4 [(0, .slice b N.length d), (3, iv g), (4, .func (.func 85) #[] #[]), (18, iv (w64 ((IntKind.u64.wrap (w64 (c + g))).fdiv (2 ^ 1)))), (24, iv (w64 ((w64 ((w64 ((IntKind.u64.wrap (w64 (c + g))).fdiv (2 ^ 1))) + k)) - o))), (213, .bool false)] w6427 (W_nil ?_))
   obtain rfl := Option.some.inj hm
   exact N_meet fun a ha => ⟨bw.pk [0], ha.s⟩
  intro ih w6436 ⟨ae, ex⟩
  refine N_use ex ?_
  have hm := fa
  refine N_then ?_
  obtain ⟨cn, fy, fb⟩ := gx_bind hm
  refine G_meet (fun a w' => ∃ (ak : Seg), ownS encEvent cn b d ak ∧ cn.length = n.length ∧ Mem (idsOf [u]) w w' [ak] ∧ Sat Try.f106.ntmps [] a) ?_ ?_
  ·have hm := fy
   rcases gx_bif hm with ⟨a6, hm⟩ | ⟨a6, hm⟩
   ·refine gT a6 (G_region (wR 5 [(214, .slice b N.length d), (215, iv (w64 ((IntKind.u64.wrap (w64 (c + g))).fdiv (2 ^ 1)))), (216, iv (w64 ((w64 ((w64 ((IntKind.u64.wrap (w64 (c + g))).fdiv (2 ^ 1))) + k)) - o))), (217, iv g), (218, .func (.func 85) #[] #[])] w6436 ?_))
    obtain ⟨gk, gb, hm⟩ := gx_bind hm
    refine wC 106 #[.slice b N.length d, iv (w64 ((IntKind.u64.wrap (w64 (c + g))).fdiv (2 ^ 1))), iv (w64 ((w64 ((w64 ((IntKind.u64.wrap (w64 (c + g))).fdiv (2 ^ 1))) + k)) - o)), iv g, .func (.func 85) #[] #[]] ((ih_ w6436 N b d Z b5 (w64 ((IntKind.u64.wrap (w64 (c + g))).fdiv (2 ^ 1))) (w64 ((w64 ((w64 ((IntKind.u64.wrap (w64 (c + g))).fdiv (2 ^ 1))) + k)) - o)) g (ae.hasPick [0]) (ae.nodupPick [0] (by kernel_rfl)) gb).mono ?_)
    rintro e_ w6459 ⟨gr, rfl, f0, a7, c6⟩
    have ec := ae.callF' [0] [] (by kernel_rfl) c6
    refine ⟨_, rfl, ?_⟩
    refine wX 214 (.slice b N.length d) (.slice b gk.length d) (by first | rw [a7] | rw [a7]) (W_nil ?_)
    obtain rfl := Option.some.inj hm
    exact N_meet fun a ha => ⟨gr, f0, (a7.trans b1), ec.pk [0], ha.s⟩
   refine gF a6 (G_skip ?_)
   obtain rfl := Option.some.inj hm
   exact N_meet fun a ha => ⟨Z, b5, b1, ae.pk [0], ha.s⟩
  intro ii w6462 ⟨ak, fz, e1, ed, ey⟩
  refine N_use ey ?_
  have hm := fb
  obtain rfl := Option.some.inj hm
  exact N_end [] (RVs_nil) (⟨ak, rfl, fz, e1, ed.pk [0]⟩)
theorem c_slices_stableCmpFunc_92__i_merged_1 (w : World) (l : List Event) (c : Option Addr) (b : Nat) (k : Seg) (ba : ownS encEvent l c b k) (d : Int) (hA : ∀ q ∈ List.flatten [k], w.heap[q.1]? = some q.2) (hN : (idsOf [k]).Nodup) {r : (List Event)} (hm : M.slices_stableCmpFunc_92__i_merged_1 l d = some r) :
  Calls Try.prog 92 #[.slice c l.length b, iv d, .func (.func 85) #[] #[]] w fun e w' => ∃ (ad : Seg), e = .returned (.tuple #[]) ∧ ownS encEvent r c b ad ∧ r.length = l.length ∧ Mem (idsOf [k]) w w' [ad] := by
 unfold M.slices_stableCmpFunc_92__i_merged_1 at hm
 refine cE Try.func92 ?_
 have M0 := Mem.start' w [k] hA hN
 refine G_seq (G_region (wR 1 [(0, .slice c l.length b), (1, iv d), (2, .func (.func 85) #[] #[]), (6, iv 20)] w (W_nil (N_then (G_seq (G_region (wR 3 [(0, .slice c l.length b), (1, iv d), (2, .func (.func 85) #[] #[]), (6, iv 20), (7, iv 0), (8, iv 20)] w (W_nil (N_then (G_seq ?_))))))))))
 obtain ⟨j, bq, a7⟩ := gx_bind hm
 refine G_meet (fun a w' => ∃ (F : Seg), ownS encEvent j.2 c b F ∧ j.2.length = l.length ∧ Mem (idsOf [k]) w w' [F] ∧ Sat Try.f92.ntmps [(0, .slice c j.2.length b), (1, iv d), (2, .func (.func 85) #[] #[]), (6, iv 20), (7, iv j.1)] a) ?_ ?_
 ·refine G_block (G_while (σ := Int × Int × List Event) (ρ := Int × List Event) (fun h a w' => ∃ (u : Seg), ownS encEvent h.2.2 c b u ∧ h.2.2.length = l.length ∧ Mem (idsOf [k]) w w' [u] ∧ Sat Try.f92.ntmps [(0, .slice c h.2.2.length b), (1, iv d), (2, .func (.func 85) #[] #[]), (6, iv 20), (7, iv h.1), (8, iv h.2.1)] a) bq (fun a ha => ⟨k, ba, rfl, M0.pk [0], ha.s⟩) ?_)
  clear hm
  intro h b9 hm bj bz P ⟨u, W, S, z, au⟩
  refine G_use au (G_seq (G_seq (G_region (wR 3 [(0, .slice c h.2.2.length b), (1, iv d), (2, .func (.func 85) #[] #[]), (6, iv 20), (7, iv h.1), (8, iv h.2.1), (13, .bool (decide (h.2.1 ≤ d)))] P (W_nil (N_then ?_))))))
  rcases gx_bif hm with ⟨K, hm⟩ | ⟨K, hm⟩
  ·refine gT K (G_skip (N_then (G_block (G_seq (G_region (wR 4 [(0, .slice c h.2.2.length b), (1, iv d), (2, .func (.func 85) #[] #[]), (6, iv 20), (8, iv h.2.1), (14, .slice c h.2.2.length b), (15, iv h.1), (16, iv h.2.1), (17, .func (.func 85) #[] #[])] P ?_))))))
   obtain ⟨D, bm, hm⟩ := gx_bind hm
   refine wC 105 #[.slice c h.2.2.length b, iv h.1, iv h.2.1, .func (.func 85) #[] #[]] ((c_slices_insertionSortCmpFunc_105__i_merged_1 P h.2.2 c b u W h.1 h.2.1 (z.hasPick [0]) (z.nodupPick [0] (by kernel_rfl)) bm).mono ?_)
   rintro e_ ae ⟨bt, rfl, bc, m, ai⟩
   have am := z.callF' [0] [] (by kernel_rfl) ai
   refine ⟨_, rfl, ?_⟩
   refine wX 0 (.slice c h.2.2.length b) (.slice c D.length b) (by first | rw [m] | rw [m]) (wX 14 (.slice c h.2.2.length b) (.slice c D.length b) (by first | rw [m] | rw [m]) (W_nil (N_then (G_seq (G_region (wR 2 [(0, .slice c D.length b), (1, iv d), (2, .func (.func 85) #[] #[]), (6, iv 20), (7, iv h.2.1), (8, iv h.2.1)] ae (W_nil (N_then (G_region (wR 4 [(0, .slice c D.length b), (1, iv d), (2, .func (.func 85) #[] #[]), (6, iv 20), (7, iv h.2.1), (8, iv (w64 (h.2.1 + 20)))] ae (W_nil (N_block ?_))))))))))))
   obtain rfl := Option.some.inj hm
   exact N_loop fun a ha => ⟨_, rfl, bt, bc, (m.trans S), am.pk [0], ha.s⟩
  refine gF K (G_exit (N_then_exit (N_then_exit (N_block_eq ?_))))
  obtain rfl := Option.some.inj hm
  obtain rfl := bj _ rfl
  exact N_meet fun a ha => ⟨u, W, S, z.pk [0], ha.s⟩
 intro b0 af ⟨F, bb, a3, J, av⟩
 refine N_use av ?_
 have hm := a7
 refine N_then (G_seq (G_region (wR 4 [(0, .slice c j.2.length b), (1, iv d), (2, .func (.func 85) #[] #[]), (6, iv 20), (23, .slice c j.2.length b), (24, iv j.1), (25, iv d), (26, .func (.func 85) #[] #[])] af ?_)))
 obtain ⟨ab, bn, hm⟩ := gx_bind hm
 refine wC 105 #[.slice c j.2.length b, iv j.1, iv d, .func (.func 85) #[] #[]] ((c_slices_insertionSortCmpFunc_105__i_merged_1 af j.2 c b F bb j.1 d (J.hasPick [0]) (J.nodupPick [0] (by kernel_rfl)) bn).mono ?_)
 rintro e_ b6 ⟨bu, rfl, bd, n, aj⟩
 have an := J.callF' [0] [] (by kernel_rfl) aj
 refine ⟨_, rfl, ?_⟩
 refine wX 0 (.slice c j.2.length b) (.slice c ab.length b) (by first | rw [n] | rw [n]) (wX 23 (.slice c j.2.length b) (.slice c ab.length b) (by first | rw [n] | rw [n]) (W_nil (N_then ?_)))
 obtain ⟨aa, br, a8⟩ := gx_bind hm
 refine G_meet (fun a w' => ∃ (G : Seg), ownS encEvent aa c b G ∧ aa.length = l.length ∧ Mem (idsOf [k]) w w' [G] ∧ Sat Try.f92.ntmps [] a) ?_ ?_
 ·refine G_block (G_while (σ := Int × List Event) (ρ := List Event) (fun f a w' => ∃ (v : Seg), ownS encEvent f.2 c b v ∧ f.2.length = l.length ∧ Mem (idsOf [k]) w w' [v] ∧ Sat Try.f92.ntmps [(0, .slice c f.2.length b), (1, iv d), (2, .func (.func 85) #[] #[]), (6, iv f.1)] a) br (fun a ha => ⟨bu, bd, (n.trans a3), an.pk [0], ha.s⟩) ?_)
  clear hm
  intro f ca hm bk b1 ag ⟨v, X, T, R, aw⟩
  refine G_use aw (G_seq (G_seq (G_region (wR 3 [(0, .slice c f.2.length b), (1, iv d), (2, .func (.func 85) #[] #[]), (6, iv f.1), (30, .bool (decide (f.1 < d)))] ag (W_nil (N_then ?_))))))
  rcases gx_bif hm with ⟨L, hm⟩ | ⟨L, hm⟩
  ·refine gT L (G_skip (N_then (G_block (G_seq (G_region (wR 4 [(0, .slice c f.2.length b), (1, iv d), (2, .func (.func 85) #[] #[]), (6, iv f.1), (7, iv 0), (8, iv (w64 (2 * f.1)))] ag (W_nil (N_then (G_seq ?_)))))))))
   obtain ⟨i, bs, a9⟩ := gx_bind hm
   refine G_meet (fun a w' => ∃ (y : Seg), ownS encEvent i.2 c b y ∧ i.2.length = l.length ∧ Mem (idsOf [k]) w w' [y] ∧ Sat Try.f92.ntmps [(0, .slice c i.2.length b), (1, iv d), (2, .func (.func 85) #[] #[]), (6, iv f.1), (7, iv i.1)] a) ?_ ?_
   ·refine G_block (G_while (σ := Int × Int × List Event) (ρ := Int × List Event) (fun g a w' => ∃ (x : Seg), ownS encEvent g.2.2 c b x ∧ g.2.2.length = l.length ∧ Mem (idsOf [k]) w w' [x] ∧ Sat Try.f92.ntmps [(0, .slice c g.2.2.length b), (1, iv d), (2, .func (.func 85) #[] #[]), (6, iv f.1), (7, iv g.1), (8, iv g.2.1)] a) bs (fun a ha => ⟨v, X, T, R.pk [0], ha.s⟩) ?_)
    clear hm
    intro g cb hm bl b2 Q ⟨x, Y, U, A, ax⟩
    refine G_use ax (G_seq (G_seq (G_region (wR 3 [(0, .slice c g.2.2.length b), (1, iv d), (2, .func (.func 85) #[] #[]), (6, iv f.1), (7, iv g.1), (8, iv g.2.1), (35, .bool (decide (g.2.1 ≤ d)))] Q (W_nil (N_then ?_))))))
    rcases gx_bif hm with ⟨N, hm⟩ | ⟨N, hm⟩
    ·refine gT N (G_skip (N_then (G_block (G_seq (G_region (wR 7 [(0, .slice c g.2.2.length b), (1, iv d), (2, .func (.func 85) #[] #[]), (6, iv f.1), (8, iv g.2.1), (36, .slice c g.2.2.length b), (37, iv g.1), (40, iv (w64 (g.1 + f.1))), (41, iv g.2.1), (42, .func (.func 85) #[] #[])] Q ?_))))))
     obtain ⟨E, bo, hm⟩ := gx_bind hm
     refine wC 106 #[.slice c g.2.2.length b, iv g.1, iv (w64 (g.1 + f.1)), iv g.2.1, .func (.func 85) #[] #[]] ((c_slices_symMergeCmpFunc_106__i_merged_1 gxFuel Q g.2.2 c b x Y g.1 (w64 (g.1 + f.1)) g.2.1 (A.hasPick [0]) (A.nodupPick [0] (by kernel_rfl)) bo).mono ?_)
     rintro e_ ah ⟨bv, rfl, bf, o, ak⟩
     have ao := A.callF' [0] [] (by kernel_rfl) ak
     refine ⟨_, rfl, ?_⟩
     refine wX 0 (.slice c g.2.2.length b) (.slice c E.length b) (by first | rw [o] | rw [o]) (wX 36 (.slice c g.2.2.length b) (.slice c E.length b) (by first | rw [o] | rw [o]) (W_nil (N_then (G_seq (G_region (wR 2 [(0, .slice c E.length b), (1, iv d), (2, .func (.func 85) #[] #[]), (6, iv f.1), (7, iv g.2.1), (8, iv g.2.1)] ah (W_nil (N_then (G_region (wR 5 [(0, .slice c E.length b), (1, iv d), (2, .func (.func 85) #[] #[]), (6, iv f.1), (7, iv g.2.1), (8, iv (w64 (g.2.1 + (w64 (2 * f.1)))))] ah (W_nil (N_block ?_))))))))))))
     obtain rfl := Option.some.inj hm
     exact N_loop fun a ha => ⟨_, rfl, bv, bf, (o.trans U), ao.pk [0], ha.s⟩
    refine gF N (G_exit (N_then_exit (N_then_exit (N_block_eq ?_))))
    obtain rfl := Option.some.inj hm
    obtain rfl := bl _ rfl
    exact N_meet fun a ha => ⟨x, Y, U, A.pk [0], ha.s⟩
   intro b3 I ⟨y, Z, V, B, ay⟩
   refine N_use ay ?_
   have hm := a9
   refine N_then (G_seq (G_seq (G_region (wR 4 [(0, .slice c i.2.length b), (1, iv d), (2, .func (.func 85) #[] #[]), (6, iv f.1), (7, iv i.1), (9, iv (w64 (i.1 + f.1)))] I (W_nil (N_then (G_seq (G_region (wR 3 [(0, .slice c i.2.length b), (1, iv d), (2, .func (.func 85) #[] #[]), (6, iv f.1), (7, iv i.1), (9, iv (w64 (i.1 + f.1))), (54, .bool (decide ((w64 (i.1 + f.1)) < d)))] I (W_nil (N_then ?_)))))))))))
   obtain ⟨C, bg, a6⟩ := gx_bind hm
   refine G_meet (fun a w' => ∃ (H : Seg), ownS encEvent C c b H ∧ C.length = l.length ∧ Mem (idsOf [k]) w w' [H] ∧ Sat Try.f92.ntmps [(0, .slice c C.length b), (1, iv d), (2, .func (.func 85) #[] #[]), (6, iv f.1)] a) ?_ ?_
   ·have hm := bg
    rcases gx_bif hm with ⟨O, hm⟩ | ⟨O, hm⟩
    ·refine gT O (G_region (wR 5 [(0, .slice c i.2.length b), (1, iv d), (2, .func (.func 85) #[] #[]), (6, iv f.1), (55, .slice c i.2.length b), (56, iv i.1), (57, iv (w64 (i.1 + f.1))), (58, iv d), (59, .func (.func 85) #[] #[])] I ?_))
     obtain ⟨ac, bp, hm⟩ := gx_bind hm
     refine wC 106 #[.slice c i.2.length b, iv i.1, iv (w64 (i.1 + f.1)), iv d, .func (.func 85) #[] #[]] ((c_slices_symMergeCmpFunc_106__i_merged_1 gxFuel I i.2 c b y Z i.1 (w64 (i.1 + f.1)) d (B.hasPick [0]) (B.nodupPick [0] (by kernel_rfl)) bp).mono ?_)
     rintro e_ b7 ⟨bw, rfl, bi, t, al⟩
     have ap := B.callF' [0] [] (by kernel_rfl) al
     refine ⟨_, rfl, ?_⟩
     refine wX 0 (.slice c i.2.length b) (.slice c ac.length b) (by first | rw [t] | rw [t]) (wX 55 (.slice c i.2.length b) (.slice c ac.length b) (by first | rw [t] | rw [t]) (W_nil ?_))
     obtain rfl := Option.some.inj hm
     exact N_meet fun a ha => ⟨bw, bi, (t.trans V), ap.pk [0], ha.s⟩
    refine gF O (G_skip ?_)
    obtain rfl := Option.some.inj hm
    exact N_meet fun a ha => ⟨y, Z, V, B.pk [0], ha.s⟩
   intro b4 bx ⟨H, bh, a5, aq, az⟩
   refine N_use az ?_
   have hm := a6
   refine N_then (G_region (wR 3 [(0, .slice c C.length b), (1, iv d), (2, .func (.func 85) #[] #[]), (6, iv (w64 (f.1 * 2)))] bx (W_nil (N_block ?_))))
   obtain rfl := Option.some.inj hm
   exact N_loop fun a ha => ⟨_, rfl, H, bh, a5, aq.pk [0], ha.s⟩
  refine gF L (G_exit (N_then_exit (N_then_exit (N_block_eq ?_))))
  obtain rfl := Option.some.inj hm
  obtain rfl := bk _ rfl
  exact N_meet fun a ha => ⟨v, X, T, R.pk [0], ha.s⟩
 intro b5 b8 ⟨G, be, a4, ar, a0⟩
 refine N_use a0 ?_
 have hm := a8
 obtain rfl := Option.some.inj hm
 exact N_end [] (RVs_nil) (⟨G, rfl, be, a4, ar.pk [0]⟩)
theorem c_slices_SortStableFunc_84__i_merged_1 (w : World) (a : List Event) (c : Option Addr) (b : Nat) (d : Seg) (j : ownS encEvent a c b d) (hA : ∀ q ∈ List.flatten [d], w.heap[q.1]? = some q.2) (hN : (idsOf [d]).Nodup) {r : (List Event)} (hm : M.slices_SortStableFunc_84__i_merged_1 a = some r) :
  Calls Try.prog 84 #[.slice c a.length b, .func (.func 85) #[] #[]] w fun e w' => ∃ (g : Seg), e = .returned (.tuple #[]) ∧ ownS encEvent r c b g ∧ r.length = a.length ∧ Mem (idsOf [d]) w w' [g] := by
 unfold M.slices_SortStableFunc_84__i_merged_1 at hm
 refine cE Try.func84 ?_
 have M0 := Mem.start' w [d] hA hN
 refine G_region (wR 4 [(4, .slice c a.length b), (6, iv (a.length : Int)), (7, .func (.func 85) #[] #[])] w ?_)
 obtain ⟨m, l, hm⟩ := gx_bind hm
 refine wC 92 #[.slice c a.length b, iv (a.length : Int), .func (.func 85) #[] #[]] ((c_slices_stableCmpFunc_92__i_merged_1 w a c b d j (a.length : Int) (M0.hasPick [0]) (M0.nodupPick [0] (by kernel_rfl)) l).mono ?_)
 rintro e_ o ⟨n, rfl, k, f, h⟩
 have i := M0.callF' [0] [] (by kernel_rfl) h
 refine ⟨_, rfl, ?_⟩
 refine wX 4 (.slice c a.length b) (.slice c m.length b) (by first | rw [f] | rw [f]) (W_nil ?_)
 obtain rfl := Option.some.inj hm
 exact N_end [] (RVs_nil) (⟨n, rfl, k, (f.trans rfl), i.pk [0]⟩)
theorem c_i_merged (w : World) (c : List Event) (i : Option Addr) (g : Nat) (L : rdS encEvent w c i g) (d : List Event) (j : Option Addr) (h : Nat) (N : rdS encEvent w d j h) {r : (List Event) × Bool} (hm : M.i_merged c d = some r) :
  Calls Try.prog 69 #[.slice i c.length g, .slice j d.length h] w fun e w' => ∃ (C : Option Addr) (z : Nat) (F : Seg), e = .returned (.tuple #[.slice C r.1.length z, .bool r.2]) ∧ ownS encEvent r.1 C z F ∧ Mem [] w w' [F] := by
 unfold M.i_merged at hm
 refine cE Try.func69 ?_
 have M0 := Mem.refl [] w
 refine G_seq (G_region (wR 2 [(0, .slice i c.length g), (1, .slice j d.length h)] w (W_nil (N_then (G_seq (G_region (wL (E := encEvent) ([] : List Event) 0 [] 26 M0 ?_)))))))
 intro o m Z X O K
 refine wR 2 [(7, .slice o ([] : List Event).length m), (8, .slice i c.length g), (9, .slice j d.length h)] X (wL (E := (deepL encEvent).E) [(([] : List Event), plOf [(o, m)]), (c, plOf [(i, g)]), (d, plOf [(j, h)])] 3 [.slice o ([] : List Event).length m, .slice i c.length g, .slice j d.length h] 32 K ?_)
 intro D A aa Y P l
 obtain ⟨k, R, hm⟩ := gx_bind hm
 refine wC 83 #[.slice D [([] : List Event), c, d].length A] ((c_slices_Concat_83 Y [([] : List Event), c, d] D A ⟨[(([] : List Event), plOf [(o, m)]), (c, plOf [(i, g)]), (d, plOf [(j, h)])], rfl, P.rd l 1 (by kernel_rfl), (rdI_cons (O.rd l 0 (by kernel_rfl)) (rdI_cons (L.mem0 l) (rdI_cons (N.mem0 l) rdI_nil)))⟩ R).mono ?_)
 rintro e_ u ⟨b, a, V, rfl, Q, H⟩
 have q := l.call H
 refine ⟨_, rfl, ?_⟩
 refine wR 1 [(6, .slice b k.length a)] u (W_nil (N_then (G_seq (G_region (wR 1 [(6, .slice b k.length a), (12, .slice b k.length a)] u ?_)))))
 obtain ⟨f, S, hm⟩ := gx_bind hm
 refine wC 84 #[.slice b k.length a, .func (.func 85) #[] #[]] ((c_slices_SortStableFunc_84__i_merged_1 u k b a V Q (q.hasPick [2]) (q.nodupPick [2] (by kernel_rfl)) S).mono ?_)
 rintro e_ G ⟨W, rfl, B, n, I⟩
 have x := q.callF' [2] [0, 1] (by kernel_rfl) I
 refine ⟨_, rfl, ?_⟩
 refine wX 6 (.slice b k.length a) (.slice b f.length a) (by first | rw [n] | rw [n]) (wX 12 (.slice b k.length a) (.slice b f.length a) (by first | rw [n] | rw [n]) (W_nil (N_then (G_seq (G_seq (G_region (wR 1 [(6, .slice b f.length a), (14, .slice b f.length a)] G ?_)))))))
 obtain ⟨U, T, hm⟩ := gx_bind hm
 refine wC 20 #[.slice b f.length a] ((c_i_IsRecord G f b a (B.rd x 2 (by kernel_rfl)) T).mono ?_)
 rintro e_ v ⟨rfl, J⟩
 have y := x.call0 J
 refine ⟨_, rfl, ?_⟩
 refine wR 1 [(6, .slice b f.length a), (16, .bool (!U))] v (W_nil (N_then ?_))
 rcases gx_bif hm with ⟨t, hm⟩ | ⟨t, hm⟩
 ·refine gT t (G_seq (G_region (wR 2 [(4, .slice none 0 0), (5, .bool false)] v (W_nil (N_then (G_ret (N_then_ret ?_)))))))
  obtain rfl := Option.some.inj hm
  exact N_ret [.slice none 0 0, .bool false] (rC (rC RVs_nil)) (⟨none, 0, [], rfl, ownS_nil, y.pk [100000]⟩)
 refine gF t (G_skip (N_then (G_seq (G_region (wR 3 [(4, .slice b f.length a), (5, .bool true)] v (W_nil (N_then (G_ret ?_))))))))
 obtain rfl := Option.some.inj hm
 exact N_ret [.slice b f.length a, .bool true] (rC (rC RVs_nil)) (⟨b, a, W, rfl, B, y.pk [2]⟩)
theorem c_i_AddEvent (w : World) (b : List Event) (d : Option Addr) (c : Nat) (u : rdS encEvent w b d c) (a : Event) {r : (List Event) × Bool} (hm : M.i_AddEvent b a = some r) :
  Calls Try.prog 33 #[.slice d b.length c, .agg #[iv a.Tick, iv a.Guest, .string a.Kind, iv a.Value]] w fun e w' => ∃ (v : Option Addr) (q : Nat) (y : Seg), e = .returned (.tuple #[.slice v r.1.length q, .bool r.2]) ∧ ownS encEvent r.1 v q y ∧ Mem [] w w' [y] := by
 unfold M.i_AddEvent at hm
 refine cE Try.func33 ?_
 have M0 := Mem.refl [] w
 refine G_seq (G_region (wN (.cells ⟨[iv a.Tick, iv a.Guest, .string a.Kind, iv a.Value]⟩ 26 (0, 0)) M0 ?_))
 intro f n o
 refine wR 2 [(0, .slice d b.length c), (3, pB f 0)] n (W_nil (N_then (G_seq (G_seq (G_region (wR 1 [(0, .slice d b.length c), (3, pB f 0), (6, .slice d b.length c)] n ?_))))))
 obtain ⟨H, F, hm⟩ := gx_bind hm
 refine wC 20 #[.slice d b.length c] ((c_i_IsRecord n b d c (u.mem0 o) F).mono ?_)
 rintro e_ h ⟨rfl, z⟩
 have i := o.call0 z
 refine ⟨_, rfl, ?_⟩
 refine wR 1 [(0, .slice d b.length c), (3, pB f 0), (8, .bool (!H))] h (W_nil (N_then ?_))
 rcases gx_bif hm with ⟨l, hm⟩ | ⟨l, hm⟩
 ·refine gT l (G_seq (G_region (wR 2 [(4, .slice none 0 0), (5, .bool false)] h (W_nil (N_then (G_ret (N_then_ret ?_)))))))
  obtain rfl := Option.some.inj hm
  exact N_ret [.slice none 0 0, .bool false] (rC (rC RVs_nil)) (⟨none, 0, [], rfl, ownS_nil, i.pk [100000]⟩)
 refine gF l (G_skip (N_then (G_seq (G_region (wR 1 [(3, pB f 0), (9, .slice d b.length c)] h (wV (.agg #[iv a.Tick, iv a.Guest, .string a.Kind, iv a.Value]) h (eL true 4 0 (i.blk 0 rfl)) (wL (E := encEvent) [a] 1 [iv a.Tick, iv a.Guest, .string a.Kind, iv a.Value] 26 i ?_)))))))
 intro x t L J C j
 obtain ⟨g, G, hm⟩ := gx_bind hm
 refine wC 69 #[.slice d b.length c, .slice x [a].length t] ((c_i_merged J b d c (u.mem0 j) [a] x t (C.rd j 1 (by kernel_rfl)) G).mono ?_)
 rintro e_ K ⟨m, k, I, rfl, D, A⟩
 have B := j.call A
 refine ⟨_, rfl, ?_⟩
 refine wR 4 [(4, .slice m g.1.length k), (5, .bool g.2)] K (W_nil (N_then (G_ret ?_)))
 obtain rfl := Option.some.inj hm
 exact N_ret [.slice m g.1.length k, .bool g.2] (rC (rC RVs_nil)) (⟨m, k, I, rfl, D, B.pk [2]⟩)
end Go.Proofs.Ytfcebglkdfadcaa
