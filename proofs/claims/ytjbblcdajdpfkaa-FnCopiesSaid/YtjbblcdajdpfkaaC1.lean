/- The walks, printed by program: whenever the model gives r, the call returns r. Part 1. -/
import Derived.Test.YtjbblcdajdpfkaaM
import Derived.Test.YtjbblcdajdpfkaaGxZ
import Derived.Test.YtjbblcdajdpfkaaProg
set_option linter.unusedVariables false
set_option maxRecDepth 100000
set_option maxHeartbeats 4000000
namespace Go.Proofs.Ytjbblcdajdpfkaa
open Go.Gx
theorem c_l_szIntS (w : World) (a : List Int) (f : Option Addr) (c : Nat) (g : rdS Gx.encI w a f c) (b : Int) {r : Int} (hm : M.l_szIntS a b = some r) :
  Calls Try.prog 54 #[.slice f a.length c, iv b] w fun e w' => e = .returned (iv r) ∧ Mem [] w w' [] := by
 unfold M.l_szIntS at hm
 refine cE Try.func54 ?_
 have M0 := Mem.refl [] w
 refine G_seq (G_region (wR 1 [(0, .slice f a.length c), (1, iv b)] w (W_nil (N_then (G_seq (G_region (wR 5 [(1, iv (w64 (b - (a.length : Int))))] w (W_nil (N_then (G_seq (G_seq (G_region (wR 2 [(1, iv (w64 (b - (a.length : Int)))), (10, .bool (decide ((w64 (b - (a.length : Int))) < 0)))] w (W_nil (N_then ?_)))))))))))))))
 rcases gx_bif hm with ⟨d, hm⟩ | ⟨d, hm⟩
 ·refine gT d (G_seq (G_region (wR 1 [(4, iv (-1))] w (W_nil (N_then (G_ret (N_then_ret ?_)))))))
  obtain rfl := Option.some.inj hm
  exact N_ret [iv (-1)] (rC RVs_nil) (⟨rfl, M0.pk []⟩)
 refine gF d (G_skip (N_then (G_seq (G_region (wR 2 [(4, iv (w64 (b - (a.length : Int))))] w (W_nil (N_then (G_ret ?_))))))))
 obtain rfl := Option.some.inj hm
 exact N_ret [iv (w64 (b - (a.length : Int)))] (rC RVs_nil) (⟨rfl, M0.pk []⟩)
theorem c_l_szBoolS (w : World) (a : List Bool) (f : Option Addr) (c : Nat) (g : rdS Gx.encB w a f c) (b : Int) {r : Int} (hm : M.l_szBoolS a b = some r) :
  Calls Try.prog 55 #[.slice f a.length c, iv b] w fun e w' => e = .returned (iv r) ∧ Mem [] w w' [] := by
 unfold M.l_szBoolS at hm
 refine cE Try.func55 ?_
 have M0 := Mem.refl [] w
 refine G_seq (G_region (wR 1 [(0, .slice f a.length c), (1, iv b)] w (W_nil (N_then (G_seq (G_region (wR 5 [(1, iv (w64 (b - (a.length : Int))))] w (W_nil (N_then (G_seq (G_seq (G_region (wR 2 [(1, iv (w64 (b - (a.length : Int)))), (10, .bool (decide ((w64 (b - (a.length : Int))) < 0)))] w (W_nil (N_then ?_)))))))))))))))
 rcases gx_bif hm with ⟨d, hm⟩ | ⟨d, hm⟩
 ·refine gT d (G_seq (G_region (wR 1 [(4, iv (-1))] w (W_nil (N_then (G_ret (N_then_ret ?_)))))))
  obtain rfl := Option.some.inj hm
  exact N_ret [iv (-1)] (rC RVs_nil) (⟨rfl, M0.pk []⟩)
 refine gF d (G_skip (N_then (G_seq (G_region (wR 2 [(4, iv (w64 (b - (a.length : Int))))] w (W_nil (N_then (G_ret ?_))))))))
 obtain rfl := Option.some.inj hm
 exact N_ret [iv (w64 (b - (a.length : Int)))] (rC RVs_nil) (⟨rfl, M0.pk []⟩)
theorem c_l_szCopying (w : World) (a : Copying) (j : Option Addr) (g : Nat) (F : rdS Gx.encI w a.Memory j g) (k : Option Addr) (h : Nat) (G : rdS Gx.encI w a.Copy k h) (l : Option Addr) (i : Nat) (H : rdS Gx.encB w a.Dirty l i) (f : Int) {r : Int} (hm : M.l_szCopying a f = some r) :
  Calls Try.prog 13 #[.agg #[.slice j a.Memory.length g, .slice k a.Copy.length h, .slice l a.Dirty.length i], iv f] w fun e w' => e = .returned (iv r) ∧ Mem [] w w' [] := by
 unfold M.l_szCopying at hm
 refine cE Try.func13 ?_
 have M0 := Mem.refl [] w
 refine G_seq (G_region (wN (.cells ⟨[.slice j a.Memory.length g, .slice k a.Copy.length h, .slice l a.Dirty.length i]⟩ 25 (0, 0)) M0 ?_))
 intro b q x
 refine wR 1 [(1, iv f), (2, pB b 0)] q (W_nil (N_then (G_seq (G_region (wR 1 [(1, iv f), (2, pB b 0), (5, pB b 0)] q (wV (.slice j a.Memory.length g) q (eL false 1 0 (x.blk 0 rfl)) (wR 1 [(1, iv f), (2, pB b 0), (6, .slice j a.Memory.length g), (7, iv f)] q ?_)))))))
 obtain ⟨c, I, hm⟩ := gx_bind hm
 refine wC 54 #[.slice j a.Memory.length g, iv f] ((c_l_szIntS q a.Memory j g (F.mem0 x) f I).mono ?_)
 rintro e_ m ⟨rfl, C⟩
 have t := x.call0 C
 refine ⟨_, rfl, ?_⟩
 refine wR 1 [(1, iv c), (2, pB b 0)] m (W_nil (N_then (G_seq (G_seq (G_region (wR 2 [(1, iv c), (2, pB b 0), (10, .bool (decide (c < 0)))] m (W_nil (N_then ?_))))))))
 rcases gx_bif hm with ⟨y, hm⟩ | ⟨y, hm⟩
 ·refine gT y (G_seq (G_region (wR 1 [(4, iv (-1))] m (W_nil (N_then (G_ret (N_then_ret ?_)))))))
  obtain rfl := Option.some.inj hm
  exact N_ret [iv (-1)] (rC RVs_nil) (⟨rfl, t.pk []⟩)
 refine gF y (G_skip (N_then (G_seq (G_region (wR 1 [(1, iv c), (2, pB b 0), (11, pB b 1)] m (wV (.slice k a.Copy.length h) m (eL false 1 1 (t.blk 0 rfl)) (wR 1 [(1, iv c), (2, pB b 0), (12, .slice k a.Copy.length h), (13, iv c)] m ?_)))))))
 obtain ⟨d, J, hm⟩ := gx_bind hm
 refine wC 54 #[.slice k a.Copy.length h, iv c] ((c_l_szIntS m a.Copy k h (G.mem0 t) c J).mono ?_)
 rintro e_ n ⟨rfl, D⟩
 have u := t.call0 D
 refine ⟨_, rfl, ?_⟩
 refine wR 1 [(1, iv d), (2, pB b 0)] n (W_nil (N_then (G_seq (G_seq (G_region (wR 2 [(1, iv d), (2, pB b 0), (16, .bool (decide (d < 0)))] n (W_nil (N_then ?_))))))))
 rcases gx_bif hm with ⟨z, hm⟩ | ⟨z, hm⟩
 ·refine gT z (G_seq (G_region (wR 1 [(4, iv (-1))] n (W_nil (N_then (G_ret (N_then_ret ?_)))))))
  obtain rfl := Option.some.inj hm
  exact N_ret [iv (-1)] (rC RVs_nil) (⟨rfl, u.pk []⟩)
 refine gF z (G_skip (N_then (G_seq (G_region (wR 1 [(1, iv d), (17, pB b 2)] n (wV (.slice l a.Dirty.length i) n (eL false 1 2 (u.blk 0 rfl)) (wR 1 [(1, iv d), (18, .slice l a.Dirty.length i), (19, iv d)] n ?_)))))))
 obtain ⟨o, K, hm⟩ := gx_bind hm
 refine wC 55 #[.slice l a.Dirty.length i, iv d] ((c_l_szBoolS n a.Dirty l i (H.mem0 u) d K).mono ?_)
 rintro e_ v ⟨rfl, E⟩
 have B := u.call0 E
 refine ⟨_, rfl, ?_⟩
 refine wR 1 [(1, iv o)] v (W_nil (N_then (G_seq (G_seq (G_region (wR 2 [(1, iv o), (22, .bool (decide (o < 0)))] v (W_nil (N_then ?_))))))))
 rcases gx_bif hm with ⟨A, hm⟩ | ⟨A, hm⟩
 ·refine gT A (G_seq (G_region (wR 1 [(4, iv (-1))] v (W_nil (N_then (G_ret (N_then_ret ?_)))))))
  obtain rfl := Option.some.inj hm
  exact N_ret [iv (-1)] (rC RVs_nil) (⟨rfl, B.pk []⟩)
 refine gF A (G_skip (N_then (G_seq (G_region (wR 2 [(4, iv o)] v (W_nil (N_then (G_ret ?_))))))))
 obtain rfl := Option.some.inj hm
 exact N_ret [iv o] (rC RVs_nil) (⟨rfl, B.pk []⟩)
theorem c_l_toIntS (w : World) (f : List Int) (g : Option Addr) (h : Nat) (u : rdS Gx.encI w f g h) {r : (List Int)} (hm : M.l_toIntS f = some r) :
  Calls Try.prog 19 #[.slice g f.length h] w fun e w' => ∃ (z : Option Addr) (t : Nat) (A : Seg), e = .returned (.slice z r.length t) ∧ ownS Gx.encI r z t A ∧ Mem [] w w' [A] := by
 unfold M.l_toIntS at hm
 refine cE Try.func19 ?_
 have M0 := Mem.refl [] w
 refine G_seq (G_region (wR 1 [(0, .slice g f.length h)] w (W_nil (N_then (G_seq (G_region (wR 2 [(0, .slice g f.length h), (6, iv (f.length : Int))] w ?_)))))))
 obtain ⟨y, I, hm⟩ := gx_bind hm
 refine W_make (E := Gx.encI) _ _ _ (f.length : Int) 8 [iv 0] (0 : Int) M0 (by kernel_rfl) rfl (by kernel_rfl) (by kernel_rfl) (by kernel_rfl) (by kernel_rfl) (by kernel_rfl) I ?_
 intro c d Q B K C
 refine wR 1 [(0, .slice g f.length h), (3, .slice c y.length d)] B (W_nil (N_then (G_seq (G_seq (G_region (wR 1 [(0, .slice g f.length h), (3, .slice c y.length d), (4, iv 0)] B (W_nil (N_then ?_))))))))
 obtain ⟨l, P, J⟩ := gx_bind hm
 refine G_meet (fun a w' => ∃ (n : Seg), ownS Gx.encI l c d n ∧ Mem [] w w' [n] ∧ Sat Try.f19.ntmps [(3, .slice c l.length d)] a) ?_ ?_
 ·refine G_block (G_while (σ := Int × List Int) (ρ := List Int) (fun b a w' => ∃ (m : Seg), ownS Gx.encI b.2 c d m ∧ Mem [] w w' [m] ∧ Sat Try.f19.ntmps [(0, .slice g f.length h), (3, .slice c b.2.length d), (4, iv b.1)] a) P (fun a ha => ⟨Q, K, C.pk [0], ha.s⟩) ?_)
  clear hm
  intro b X hm O V k ⟨m, q, j, G⟩
  refine G_use G (G_seq (G_seq (G_region (wR 4 [(0, .slice g f.length h), (3, .slice c b.2.length d), (4, iv b.1), (11, .bool (decide (b.1 < (f.length : Int))))] k (W_nil (N_then ?_))))))
  rcases gx_bif hm with ⟨o, hm⟩ | ⟨o, hm⟩
  ·refine gT o (G_skip (N_then (G_seq (G_block (G_region (wR 4 [(0, .slice g f.length h), (3, .slice c b.2.length d), (4, iv b.1), (14, .slice c b.2.length d), (15, iv b.1), (16, .slice g f.length h), (17, iv b.1)] k ?_))))))
   obtain ⟨i, v, hm⟩ := gx_bind hm
   refine wV (elemP g (b.1.toNat * 1)) k (eI (u.mem0 j) rfl v) (wV (iv i) k (eE false 1 0 (b.1.toNat * 1) (u.mem0 j) v) ?_)
   obtain ⟨U, x, hm⟩ := gx_bind hm
   refine wV (elemP c (b.1.toNat * 1)) k (eI (q.rd j 0 (by kernel_rfl)) rfl x) (wE false 1 b.1.toNat 0 (b.1.toNat * 1) U i (iv i) 0 j q (gxIdx_spec x).2 ?_)
   intro S R N D
   refine wX 3 (.slice c b.2.length d) (.slice c (b.2.set b.1.toNat i).length d) (by rw [@List.length_set _ b.2 b.1.toNat i]) (wX 14 (.slice c b.2.length d) (.slice c (b.2.set b.1.toNat i).length d) (by rw [@List.length_set _ b.2 b.1.toNat i]) (W_nil (N_block (N_then (G_region (wR 3 [(0, .slice g f.length h), (3, .slice c (b.2.set b.1.toNat i).length d), (4, iv (w64 (b.1 + 1)))] S (W_nil ?_)))))))
   obtain rfl := Option.some.inj hm
   exact N_loop fun a ha => ⟨_, rfl, R, N, D.pk [0], ha.s⟩
  refine gF o (G_exit (N_then_exit (N_then_exit (N_block_eq ?_))))
  obtain rfl := Option.some.inj hm
  obtain rfl := O _ rfl
  exact N_meet fun a ha => ⟨m, q, j.pk [0], ha.s⟩
 intro W T ⟨n, L, F, H⟩
 refine N_use H ?_
 have hm := J
 refine N_then (G_seq (G_region (wR 2 [(2, .slice c l.length d)] T (W_nil (N_then (G_ret ?_))))))
 obtain rfl := Option.some.inj hm
 exact N_ret [.slice c l.length d] (rC RVs_nil) (⟨c, d, n, rfl, L, F.pk [0]⟩)
theorem c_l_toBoolS (w : World) (f : List Bool) (g : Option Addr) (h : Nat) (u : rdS Gx.encB w f g h) {r : (List Bool)} (hm : M.l_toBoolS f = some r) :
  Calls Try.prog 57 #[.slice g f.length h] w fun e w' => ∃ (z : Option Addr) (t : Nat) (A : Seg), e = .returned (.slice z r.length t) ∧ ownS Gx.encB r z t A ∧ Mem [] w w' [A] := by
 unfold M.l_toBoolS at hm
 refine cE Try.func57 ?_
 have M0 := Mem.refl [] w
 refine G_seq (G_region (wR 1 [(0, .slice g f.length h)] w (W_nil (N_then (G_seq (G_region (wR 2 [(0, .slice g f.length h), (6, iv (f.length : Int))] w ?_)))))))
 obtain ⟨y, I, hm⟩ := gx_bind hm
 refine W_make (E := Gx.encB) _ _ _ (f.length : Int) 1 [.bool false] (false : Bool) M0 (by kernel_rfl) rfl (by kernel_rfl) (by kernel_rfl) (by kernel_rfl) (by kernel_rfl) (by kernel_rfl) I ?_
 intro c d Q B K C
 refine wR 1 [(0, .slice g f.length h), (3, .slice c y.length d)] B (W_nil (N_then (G_seq (G_seq (G_region (wR 1 [(0, .slice g f.length h), (3, .slice c y.length d), (4, iv 0)] B (W_nil (N_then ?_))))))))
 obtain ⟨l, P, J⟩ := gx_bind hm
 refine G_meet (fun a w' => ∃ (n : Seg), ownS Gx.encB l c d n ∧ Mem [] w w' [n] ∧ Sat Try.f57.ntmps [(3, .slice c l.length d)] a) ?_ ?_
 ·refine G_block (G_while (σ := Int × List Bool) (ρ := List Bool) (fun b a w' => ∃ (m : Seg), ownS Gx.encB b.2 c d m ∧ Mem [] w w' [m] ∧ Sat Try.f57.ntmps [(0, .slice g f.length h), (3, .slice c b.2.length d), (4, iv b.1)] a) P (fun a ha => ⟨Q, K, C.pk [0], ha.s⟩) ?_)
  clear hm
  intro b X hm O V k ⟨m, q, j, G⟩
  refine G_use G (G_seq (G_seq (G_region (wR 4 [(0, .slice g f.length h), (3, .slice c b.2.length d), (4, iv b.1), (11, .bool (decide (b.1 < (f.length : Int))))] k (W_nil (N_then ?_))))))
  rcases gx_bif hm with ⟨o, hm⟩ | ⟨o, hm⟩
  ·refine gT o (G_skip (N_then (G_seq (G_block (G_region (wR 4 [(0, .slice g f.length h), (3, .slice c b.2.length d), (4, iv b.1), (14, .slice c b.2.length d), (15, iv b.1), (16, .slice g f.length h), (17, iv b.1)] k ?_))))))
   obtain ⟨i, v, hm⟩ := gx_bind hm
   refine wV (elemP g (b.1.toNat * 1)) k (eI (u.mem0 j) rfl v) (wV (.bool i) k (eE false 1 0 (b.1.toNat * 1) (u.mem0 j) v) ?_)
   obtain ⟨U, x, hm⟩ := gx_bind hm
   refine wV (elemP c (b.1.toNat * 1)) k (eI (q.rd j 0 (by kernel_rfl)) rfl x) (wE false 1 b.1.toNat 0 (b.1.toNat * 1) U i (.bool i) 0 j q (gxIdx_spec x).2 ?_)
   intro S R N D
   refine wX 3 (.slice c b.2.length d) (.slice c (b.2.set b.1.toNat i).length d) (by rw [@List.length_set _ b.2 b.1.toNat i]) (wX 14 (.slice c b.2.length d) (.slice c (b.2.set b.1.toNat i).length d) (by rw [@List.length_set _ b.2 b.1.toNat i]) (W_nil (N_block (N_then (G_region (wR 3 [(0, .slice g f.length h), (3, .slice c (b.2.set b.1.toNat i).length d), (4, iv (w64 (b.1 + 1)))] S (W_nil ?_)))))))
   obtain rfl := Option.some.inj hm
   exact N_loop fun a ha => ⟨_, rfl, R, N, D.pk [0], ha.s⟩
  refine gF o (G_exit (N_then_exit (N_then_exit (N_block_eq ?_))))
  obtain rfl := Option.some.inj hm
  obtain rfl := O _ rfl
  exact N_meet fun a ha => ⟨m, q, j.pk [0], ha.s⟩
 intro W T ⟨n, L, F, H⟩
 refine N_use H ?_
 have hm := J
 refine N_then (G_seq (G_region (wR 2 [(2, .slice c l.length d)] T (W_nil (N_then (G_ret ?_))))))
 obtain rfl := Option.some.inj hm
 exact N_ret [.slice c l.length d] (rC RVs_nil) (⟨c, d, n, rfl, L, F.pk [0]⟩)
theorem c_l_toCopying (w : World) (a : Copying) (A : Option Addr) (x : Nat) (ad : rdS Gx.encI w a.Memory A x) (B : Option Addr) (y : Nat) (ae : rdS Gx.encI w a.Copy B y) (C : Option Addr) (z : Nat) (af : rdS Gx.encB w a.Dirty C z) {r : Copying} (hm : M.l_toCopying a = some r) :
  Calls Try.prog 15 #[.agg #[.slice A a.Memory.length x, .slice B a.Copy.length y, .slice C a.Dirty.length z]] w fun e w' => ∃ (P : Option Addr) (L : Nat) (S : Seg), ∃ (Q : Option Addr) (N : Nat) (T : Seg), ∃ (R : Option Addr) (O : Nat) (U : Seg), e = .returned (.agg #[.slice P r.Memory.length L, .slice Q r.Copy.length N, .slice R r.Dirty.length O]) ∧ ownS Gx.encI r.Memory P L S ∧ ownS Gx.encI r.Copy Q N T ∧ ownS Gx.encB r.Dirty R O U ∧ Mem [] w w' [S, T, U] := by
 unfold M.l_toCopying at hm
 refine cE Try.func15 ?_
 have M0 := Mem.refl [] w
 refine G_seq (G_region (wN (.cells ⟨[.slice A a.Memory.length x, .slice B a.Copy.length y, .slice C a.Dirty.length z]⟩ 25 (0, 0)) M0 ?_))
 intro u ax ac
 refine wN (.cells ⟨[.slice none 0 0, .slice none 0 0, .slice none 0 0]⟩ 28 (0, 0)) ac ?_
 intro t av Y
 refine W_nil (N_then (G_seq (G_region (wN (.cells ⟨[.slice none 0 0, .slice none 0 0, .slice none 0 0]⟩ 28 (0, 0)) Y ?_))))
 intro q G D
 refine W_nil (N_then (G_seq (G_region (wR 1 [(1, pB u 0), (2, pB t 0), (3, pB q 0), (4, pB u 0)] G (wV (.slice A a.Memory.length x) G (eL false 1 0 (D.blk 0 rfl)) ?_)))))
 obtain ⟨i, aj, hm⟩ := gx_bind hm
 refine wC 19 #[.slice A a.Memory.length x] ((c_l_toIntS G a.Memory A x (ad.mem0 D) aj).mono ?_)
 rintro e_ ap ⟨d, c, am, rfl, ag, V⟩
 have Z := D.call V
 refine ⟨_, rfl, ?_⟩
 refine wR 1 [(1, pB u 0), (2, pB t 0), (3, pB q 0), (6, .slice d i.length c), (7, pB q 0)] ap (wS false 1 0 (.slice d i.length c) 2 [.slice d i.length c, .slice none 0 0, .slice none 0 0] Z rfl ?_)
 intro H E
 refine W_nil (N_then (G_seq (G_region (wR 1 [(1, pB u 0), (2, pB t 0), (3, pB q 0), (8, pB u 1)] H (wV (.slice B a.Copy.length y) H (eL false 1 1 (E.blk 0 rfl)) ?_)))))
 obtain ⟨m, ak, hm⟩ := gx_bind hm
 refine wC 19 #[.slice B a.Copy.length y] ((c_l_toIntS H a.Copy B y (ae.mem0 E) ak).mono ?_)
 rintro e_ aq ⟨h, f, an, rfl, ah, W⟩
 have aa := E.call W
 refine ⟨_, rfl, ?_⟩
 refine wR 1 [(1, pB u 0), (2, pB t 0), (3, pB q 0), (10, .slice h m.length f), (11, pB q 1)] aq (wS false 1 1 (.slice h m.length f) 2 [.slice d i.length c, .slice h m.length f, .slice none 0 0] aa rfl ?_)
 intro I F
 refine W_nil (N_then (G_seq (G_region (wR 1 [(2, pB t 0), (3, pB q 0), (12, pB u 2)] I (wV (.slice C a.Dirty.length z) I (eL false 1 2 (F.blk 0 rfl)) ?_)))))
 obtain ⟨n, al, hm⟩ := gx_bind hm
 refine wC 57 #[.slice C a.Dirty.length z] ((c_l_toBoolS I a.Dirty C z (af.mem0 F) al).mono ?_)
 rintro e_ ar ⟨l, j, ao, rfl, ai, X⟩
 have ab := F.call X
 refine ⟨_, rfl, ?_⟩
 refine wR 1 [(2, pB t 0), (3, pB q 0), (14, .slice l n.length j), (15, pB q 2)] ar (wS false 1 2 (.slice l n.length j) 2 [.slice d i.length c, .slice h m.length f, .slice l n.length j] ab rfl ?_)
 intro au J
 refine W_nil (N_then (G_seq (G_region (wV (.agg #[.slice d i.length c, .slice h m.length f, .slice l n.length j]) au (eL true 3 0 (J.blk 2 rfl)) (wS true 3 0 (.agg #[.slice d i.length c, .slice h m.length f, .slice l n.length j]) 1 [.slice d i.length c, .slice h m.length f, .slice l n.length j] J rfl ?_)))))
 intro aw K
 refine W_nil (N_then (G_ret ?_))
 obtain rfl := Option.some.inj hm
 exact N_ret [.agg #[.slice d i.length c, .slice h m.length f, .slice l n.length j]] (RVs_cons (RV_cell (g := true) (k := 3) (b := t) (off := 0) (cs := [.slice d i.length c, .slice h m.length f, .slice l n.length j]) (e := 28) (fr := (0, 0)) (v := .agg #[.slice d i.length c, .slice h m.length f, .slice l n.length j]) (K.blk 1 (b := t) (o := .cells ⟨[.slice d i.length c, .slice h m.length f, .slice l n.length j]⟩ 28 (0, 0)) (by kernel_rfl)) (by kernel_rfl) (by kernel_rfl) (by kernel_rfl)) RVs_nil) (⟨d, c, am, h, f, an, l, j, ao, rfl, ag, ah, ai, K.pk [3, 4, 5]⟩)
theorem c_s_l1In (w : World) (b : Int) (d : Int) (c : Int) {r : Bool} (hm : M.s_l1In b d c = some r) :
  Calls Try.prog 73 #[iv b, iv d, iv c] w fun e w' => e = .returned (.bool r) ∧ Mem [] w w' [] := by
 unfold M.s_l1In at hm
 refine cE Try.func73 ?_
 have M0 := Mem.refl [] w
 refine G_seq (G_region (wR 1 [(0, iv b), (1, iv d), (2, iv c)] w (W_nil (N_then (G_seq ?_)))))
 obtain ⟨g, k, j⟩ := gx_bind hm
 refine G_meet (fun a w' => Mem [] w w' [] ∧ Sat Try.f73.ntmps [(6, .bool g)] a) ?_ ?_
 ·have hm := k
  refine G_region (wR 4 [(0, iv b), (2, iv c), (10, .bool (decide (b ≥ d)))] w ?_)
  rcases gx_bif hm with ⟨f, hm⟩ | ⟨f, hm⟩
  ·refine wK 10 true f (wR 5 [(6, .bool (decide (b ≤ c)))] w (W_nil ?_))
   obtain rfl := Option.some.inj hm
   exact N_meet fun a ha => ⟨M0.pk [], ha.s⟩
  refine wK 10 false f (wR 5 [(6, .bool false)] w (W_nil ?_))
  obtain rfl := Option.some.inj hm
  exact N_meet fun a ha => ⟨M0.pk [], ha.s⟩
 intro l m ⟨h, i⟩
 refine N_use i ?_
 have hm := j
 refine N_then (G_ret ?_)
 obtain rfl := Option.some.inj hm
 exact N_ret [.bool g] (rC RVs_nil) (⟨rfl, h.pk []⟩)
theorem c_s_l2Word16 (w : World) (a : Int) {r : Bool} (hm : M.s_l2Word16 a = some r) :
  Calls Try.prog 95 #[iv a] w fun e w' => e = .returned (.bool r) ∧ Mem [] w w' [] := by
 unfold M.s_l2Word16 at hm
 refine cE Try.func95 ?_
 have M0 := Mem.refl [] w
 refine G_seq (G_region (wR 1 [(0, iv a)] w (W_nil (N_then (G_seq (G_region (wR 1 [(3, iv a)] w ?_)))))))
 obtain ⟨b, f, hm⟩ := gx_bind hm
 refine wC 73 #[iv a, iv 0, iv 65535] ((c_s_l1In w a 0 65535 f).mono ?_)
 rintro e_ g ⟨rfl, c⟩
 have d := M0.call0 c
 refine ⟨_, rfl, ?_⟩
 refine wR 1 [(2, .bool b)] g (W_nil (N_then (G_ret ?_)))
 obtain rfl := Option.some.inj hm
 exact N_ret [.bool b] (rC RVs_nil) (⟨rfl, d.pk []⟩)
theorem c_s_l19Memory (w : World) (b : List Int) (c : Option Addr) (d : Nat) (n : rdS Gx.encI w b c d) {r : Bool} (hm : M.s_l19Memory b = some r) :
  Calls Try.prog 60 #[.slice c b.length d] w fun e w' => e = .returned (.bool r) ∧ Mem [] w w' [] := by
 unfold M.s_l19Memory at hm
 refine cE Try.func60 ?_
 have M0 := Mem.refl [] w
 refine G_seq (G_region (wR 1 [(0, .slice c b.length d)] w (W_nil (N_then (G_seq (G_seq (G_region (wR 1 [(0, .slice c b.length d), (3, iv 0)] w (W_nil (N_then ?_))))))))))
 obtain ⟨H, G, o⟩ := gx_bind hm
 refine G_meet (fun a w' => ∃ (u : Unit), H = .inl u ∧ Mem [] w w' [] ∧ Sat Try.f60.ntmps [(0, .slice c b.length d)] a) ?_ ?_
 ·refine G_block (G_while (σ := Int) (ρ := (Unit) ⊕ (Bool)) (fun f a w' => Mem [] w w' [] ∧ Sat Try.f60.ntmps [(0, .slice c b.length d), (3, iv f)] a) G (fun a ha => ⟨M0.pk [], ha.s⟩) ?_)
  clear hm
  intro f N hm q K g ⟨h, C⟩
  refine G_use C (G_seq (G_seq (G_region (wR 4 [(0, .slice c b.length d), (3, iv f), (7, .bool (decide (f < (b.length : Int))))] g (W_nil (N_then ?_))))))
  rcases gx_bif hm with ⟨i, hm⟩ | ⟨i, hm⟩
  ·refine gT i (G_skip (N_then (G_seq (G_block (G_seq (G_region (wR 2 [(0, .slice c b.length d), (3, iv f), (10, .slice c b.length d), (11, iv f)] g ?_)))))))
   obtain ⟨l, t, hm⟩ := gx_bind hm
   refine wV (elemP c (f.toNat * 1)) g (eI (n.mem0 h) rfl t) (wV (iv l) g (eE false 1 0 (f.toNat * 1) (n.mem0 h) t) ?_)
   obtain ⟨I, E, hm⟩ := gx_bind hm
   refine wC 95 #[iv l] ((c_s_l2Word16 g l E).mono ?_)
   rintro e_ k ⟨rfl, y⟩
   have m := h.call0 y
   refine ⟨_, rfl, ?_⟩
   refine wR 1 [(0, .slice c b.length d), (3, iv f), (15, .bool (!I))] k (W_nil (N_then ?_))
   rcases gx_bif hm with ⟨j, hm⟩ | ⟨j, hm⟩
   ·refine gT j (G_seq (G_region (wR 1 [(2, .bool false)] k (W_nil (N_then (G_ret (N_block_ret (N_then_ret (N_then_ret ?_)))))))))
    obtain rfl := Option.some.inj hm
    obtain rfl := q _ rfl
    have hm := o; simp only [Sum.elim_inr] at hm
    refine N_block_ret (N_meet_ret (N_then_ret ?_))
    obtain rfl := Option.some.inj hm
    exact N_ret [.bool false] (rC RVs_nil) (⟨rfl, m.pk []⟩)
   refine gF j (G_skip (N_block (N_then (G_region (wR 3 [(0, .slice c b.length d), (3, iv (w64 (f + 1)))] k (W_nil ?_))))))
   obtain rfl := Option.some.inj hm
   exact N_loop fun a ha => ⟨_, rfl, m.pk [], ha.s⟩
  refine gF i (G_exit (N_then_exit (N_then_exit (N_block_eq ?_))))
  obtain rfl := Option.some.inj hm
  obtain rfl := q _ rfl
  exact N_meet fun a ha => ⟨_, rfl, h.pk [], ha.s⟩
 intro L x ⟨u, hout_, A, D⟩
 refine N_use D ?_
 subst hout_
 have hm := o; simp only [Sum.elim_inl] at hm
 refine N_then (G_seq (G_region (wR 2 [(17, iv (b.length : Int))] x ?_)))
 obtain ⟨v, F, hm⟩ := gx_bind hm
 refine wC 73 #[iv (b.length : Int), iv 1, iv 12] ((c_s_l1In x (b.length : Int) 1 12 F).mono ?_)
 rintro e_ J ⟨rfl, z⟩
 have B := A.call0 z
 refine ⟨_, rfl, ?_⟩
 refine wR 1 [(2, .bool v)] J (W_nil (N_then (G_ret ?_)))
 obtain rfl := Option.some.inj hm
 exact N_ret [.bool v] (rC RVs_nil) (⟨rfl, B.pk []⟩)
theorem c_s_l19Good (w : World) (c : Copying) (f : Option Addr) (g : Nat) (z : rdS Gx.encI w c.Memory f g) (h : Option Addr) (j : Nat) (A : rdS Gx.encI w c.Copy h j) (k : Option Addr) (l : Nat) (L : rdS Gx.encB w c.Dirty k l) {r : Bool} (hm : M.s_l19Good c = some r) :
  Calls Try.prog 56 #[.agg #[.slice f c.Memory.length g, .slice h c.Copy.length j, .slice k c.Dirty.length l]] w fun e w' => e = .returned (.bool r) ∧ Mem [] w w' [] := by
 unfold M.s_l19Good at hm
 refine cE Try.func56 ?_
 have M0 := Mem.refl [] w
 refine G_seq (G_region (wN (.cells ⟨[.slice f c.Memory.length g, .slice h c.Copy.length j, .slice k c.Dirty.length l]⟩ 28 (0, 0)) M0 ?_))
 intro b t x
 refine wR 1 [(1, pB b 0)] t (W_nil (N_then (G_seq (G_seq ?_))))
 obtain ⟨al, ag, ae⟩ := gx_bind hm
 refine G_meet (fun a w' => Mem [] w w' [[(b, .cells ⟨[.slice f c.Memory.length g, .slice h c.Copy.length j, .slice k c.Dirty.length l]⟩ 28 (0, 0))]] ∧ Sat Try.f56.ntmps [(1, pB b 0), (31, .bool al)] a) ?_ ?_
 ·have hm := ag
  refine G_region (wR 1 [(1, pB b 0), (4, pB b 0)] t (wV (.slice f c.Memory.length g) t (eL false 1 0 (x.blk 0 rfl)) ?_))
  obtain ⟨ao, ai, hm⟩ := gx_bind hm
  refine wC 60 #[.slice f c.Memory.length g] ((c_s_l19Memory t c.Memory f g (z.mem0 x) ai).mono ?_)
  rintro e_ o ⟨rfl, V⟩
  have q := x.call0 V
  refine ⟨_, rfl, ?_⟩
  refine wR 2 [(1, pB b 0), (8, .bool (!ao))] o ?_
  rcases gx_bif hm with ⟨B, hm⟩ | ⟨B, hm⟩
  ·refine wK 8 true B (wR 23 [(1, pB b 0), (31, .bool true)] o (W_nil ?_))
   obtain rfl := Option.some.inj hm
   exact N_meet fun a ha => ⟨q.pk [0], ha.s⟩
  refine wK 8 false B (wR 1 [(1, pB b 0), (8, .bool false), (9, pB b 1)] o (wV (.slice h c.Copy.length j) o (eL false 1 1 (q.blk 0 rfl)) ?_))
  obtain ⟨ap, aj, hm⟩ := gx_bind hm
  refine wC 60 #[.slice h c.Copy.length j] ((c_s_l19Memory o c.Copy h j (A.mem0 q) aj).mono ?_)
  rintro e_ i ⟨rfl, W⟩
  have m := q.call0 W
  refine ⟨_, rfl, ?_⟩
  refine wR 3 [(1, pB b 0), (14, .bool (!ap))] i ?_
  rcases gx_bif hm with ⟨C, hm⟩ | ⟨C, hm⟩
  ·refine wK 14 true C (wR 17 [(1, pB b 0), (31, .bool true)] i (W_nil ?_))
   obtain rfl := Option.some.inj hm
   exact N_meet fun a ha => ⟨m.pk [0], ha.s⟩
  refine wK 14 false C (wR 1 [(1, pB b 0), (14, .bool false), (15, pB b 1)] i (wV (.slice h c.Copy.length j) i (eL false 1 1 (m.blk 0 rfl)) (wR 2 [(1, pB b 0), (14, .bool false), (17, iv (c.Copy.length : Int)), (18, pB b 0)] i (wV (.slice f c.Memory.length g) i (eL false 1 0 (m.blk 0 rfl)) (wR 4 [(1, pB b 0), (23, .bool ((c.Copy.length : Int) != (c.Memory.length : Int)))] i ?_)))))
  rcases gx_bif hm with ⟨D, hm⟩ | ⟨D, hm⟩
  ·refine wK 23 true D (wR 8 [(1, pB b 0), (31, .bool true)] i (W_nil ?_))
   obtain rfl := Option.some.inj hm
   exact N_meet fun a ha => ⟨m.pk [0], ha.s⟩
  refine wK 23 false D (wR 1 [(1, pB b 0), (23, .bool false), (24, pB b 2)] i (wV (.slice k c.Dirty.length l) i (eL false 1 2 (m.blk 0 rfl)) (wR 2 [(1, pB b 0), (23, .bool false), (26, iv (c.Dirty.length : Int)), (27, pB b 0)] i (wV (.slice f c.Memory.length g) i (eL false 1 0 (m.blk 0 rfl)) (wR 3 [(1, pB b 0), (31, .bool ((c.Dirty.length : Int) != (c.Memory.length : Int)))] i (W_nil ?_))))))
  obtain rfl := Option.some.inj hm
  exact N_meet fun a ha => ⟨m.pk [0], ha.s⟩
 intro ar T ⟨J, aa⟩
 refine N_use aa ?_
 have hm := ae
 refine N_then ?_
 rcases gx_bif hm with ⟨E, hm⟩ | ⟨E, hm⟩
 ·refine gT E (G_seq (G_region (wR 1 [(2, .bool false)] T (W_nil (N_then (G_ret (N_then_ret ?_)))))))
  obtain rfl := Option.some.inj hm
  exact N_ret [.bool false] (rC RVs_nil) (⟨rfl, J.pk []⟩)
 refine gF E (G_skip (N_then (G_seq (G_seq (G_region (wR 1 [(1, pB b 0), (3, iv 0)] T (W_nil (N_then ?_))))))))
 obtain ⟨an, ak, N⟩ := gx_bind hm
 refine G_meet (fun a w' => ∃ (S : Unit), an = .inl S ∧ Mem [] w w' [] ∧ Sat Try.f56.ntmps [] a) ?_ ?_
 ·refine G_block (G_while (σ := Int) (ρ := (Unit) ⊕ (Bool)) (fun d a w' => Mem [] w w' [[(b, .cells ⟨[.slice f c.Memory.length g, .slice h c.Copy.length j, .slice k c.Dirty.length l]⟩ 28 (0, 0))]] ∧ Sat Try.f56.ntmps [(1, pB b 0), (3, iv d)] a) ak (fun a ha => ⟨J.pk [0], ha.s⟩) ?_)
  clear hm
  intro d az hm O au I ⟨y, ab⟩
  refine G_use ab (G_seq (G_seq (G_region (wR 2 [(1, pB b 0), (3, iv d), (32, iv d), (33, pB b 0)] I (wV (.slice f c.Memory.length g) I (eL false 1 0 (y.blk 0 rfl)) (wR 2 [(1, pB b 0), (3, iv d), (36, .bool (decide (d < (c.Memory.length : Int))))] I (W_nil (N_then ?_))))))))
  rcases gx_bif hm with ⟨F, hm⟩ | ⟨F, hm⟩
  ·refine gT F (G_skip (N_then (G_seq (G_block (G_seq ?_)))))
   obtain ⟨am, ah, af⟩ := gx_bind hm
   refine G_meet (fun a w' => Mem [] w w' [[(b, .cells ⟨[.slice f c.Memory.length g, .slice h c.Copy.length j, .slice k c.Dirty.length l]⟩ 28 (0, 0))]] ∧ Sat Try.f56.ntmps [(1, pB b 0), (3, iv d), (57, .bool am)] a) ?_ ?_
   ·have hm := ah
    refine G_quiet (by kernel_rfl) (by kernel_rfl) y (zR [pB b 0] [(1, pB b 0), (3, iv d), (39, pB b 0)] (zV (.slice f c.Memory.length g) (fun w_ M_ => (eL false 1 0 (M_.blk 0 rfl))) (zR [iv d] [(1, pB b 0), (3, iv d), (40, .slice f c.Memory.length g), (41, iv d)] ?_)))
    obtain ⟨n, P, hm⟩ := gx_bind hm
    refine zV (elemP f (d.toNat * 1)) (fun w_ M_ => (eI (z.mem0 M_) rfl P)) (zV (iv n) (fun w_ M_ => (eE false 1 0 (d.toNat * 1) (z.mem0 M_) P)) (zR [pB b 1] [(1, pB b 0), (3, iv d), (43, iv n), (44, pB b 1)] (zV (.slice h c.Copy.length j) (fun w_ M_ => (eL false 1 1 (M_.blk 0 rfl))) (zR [iv d] [(1, pB b 0), (3, iv d), (43, iv n), (45, .slice h c.Copy.length j), (46, iv d)] ?_))))
    obtain ⟨u, Q, hm⟩ := gx_bind hm
    refine zV (elemP h (d.toNat * 1)) (fun w_ M_ => (eI (A.mem0 M_) rfl Q)) (zV (iv u) (fun w_ M_ => (eE false 1 0 (d.toNat * 1) (A.mem0 M_) Q)) (zR [.bool (n != u), .bool (n != u)] [(1, pB b 0), (3, iv d), (50, .bool (n != u))] ?_))
    rcases gx_bif hm with ⟨G, hm⟩ | ⟨G, hm⟩
    ·refine zK 50 true G (zR [pB b 2] [(1, pB b 0), (3, iv d), (50, .bool true), (51, pB b 2)] (zV (.slice k c.Dirty.length l) (fun w_ M_ => (eL false 1 2 (M_.blk 0 rfl))) (zR [iv d] [(1, pB b 0), (3, iv d), (50, .bool true), (52, .slice k c.Dirty.length l), (53, iv d)] ?_)))
     obtain ⟨v, R, hm⟩ := gx_bind hm
     refine zV (elemP k (d.toNat * 1)) (fun w_ M_ => (eI (L.mem0 M_) rfl R)) (zV (.bool v) (fun w_ M_ => (eE false 1 0 (d.toNat * 1) (L.mem0 M_) R)) (zR [.bool (!v), .bool (!v)] [(1, pB b 0), (3, iv d), (57, .bool (!v))] (Z_end fun ax X => ?_)))
     obtain rfl := Option.some.inj hm
     exact N_meet fun a ha => ⟨X.pk [0], ha.s⟩
    refine zK 50 false G (zR [undef, undef, undef, undef, undef, undef, .bool false] [(1, pB b 0), (3, iv d), (57, .bool false)] (Z_end fun ay Y => ?_))
    obtain rfl := Option.some.inj hm
    exact N_meet fun a ha => ⟨Y.pk [0], ha.s⟩
   intro av U ⟨K, ac⟩
   refine N_use ac ?_
   have hm := af
   refine N_then ?_
   rcases gx_bif hm with ⟨H, hm⟩ | ⟨H, hm⟩
   ·refine gT H (G_seq (G_region (wR 1 [(2, .bool false)] U (W_nil (N_then (G_ret (N_block_ret (N_then_ret (N_then_ret ?_)))))))))
    obtain rfl := Option.some.inj hm
    obtain rfl := O _ rfl
    have hm := N; simp only [Sum.elim_inr] at hm
    refine N_block_ret (N_meet_ret (N_then_ret ?_))
    obtain rfl := Option.some.inj hm
    exact N_ret [.bool false] (rC RVs_nil) (⟨rfl, K.pk []⟩)
   refine gF H (G_skip (N_block (N_then (G_region (wR 3 [(1, pB b 0), (3, iv (w64 (d + 1)))] U (W_nil ?_))))))
   obtain rfl := Option.some.inj hm
   exact N_loop fun a ha => ⟨_, rfl, K.pk [0], ha.s⟩
  refine gF F (G_exit (N_then_exit (N_then_exit (N_block_eq ?_))))
  obtain rfl := Option.some.inj hm
  obtain rfl := O _ rfl
  exact N_meet fun a ha => ⟨_, rfl, y.pk [], ha.s⟩
 intro aw aq ⟨S, hout_, Z, ad⟩
 refine N_use ad ?_
 subst hout_
 have hm := N; simp only [Sum.elim_inl] at hm
 refine N_then (G_seq (G_region (wR 1 [(2, .bool true)] aq (W_nil (N_then (G_ret ?_))))))
 obtain rfl := Option.some.inj hm
 exact N_ret [.bool true] (rC RVs_nil) (⟨rfl, Z.pk []⟩)
theorem c_s_IsCopying (w : World) (a : Copying) (f : Option Addr) (b : Nat) (o : rdS Gx.encI w a.Memory f b) (g : Option Addr) (c : Nat) (q : rdS Gx.encI w a.Copy g c) (h : Option Addr) (d : Nat) (t : rdS Gx.encB w a.Dirty h d) {r : Bool} (hm : M.s_IsCopying a = some r) :
  Calls Try.prog 14 #[.agg #[.slice f a.Memory.length b, .slice g a.Copy.length c, .slice h a.Dirty.length d]] w fun e w' => e = .returned (.bool r) ∧ Mem [] w w' [] := by
 unfold M.s_IsCopying at hm
 refine cE Try.func14 ?_
 have M0 := Mem.refl [] w
 refine G_seq (G_region (wN (.cells ⟨[.slice f a.Memory.length b, .slice g a.Copy.length c, .slice h a.Dirty.length d]⟩ 28 (0, 0)) M0 ?_))
 intro n j i
 refine wR 1 [(1, pB n 0)] j (W_nil (N_then (G_seq (G_region (wV (.agg #[.slice f a.Memory.length b, .slice g a.Copy.length c, .slice h a.Dirty.length d]) j (eL true 3 0 (i.blk 0 rfl)) ?_)))))
 obtain ⟨k, u, hm⟩ := gx_bind hm
 refine wC 56 #[.agg #[.slice f a.Memory.length b, .slice g a.Copy.length c, .slice h a.Dirty.length d]] ((c_s_l19Good j a f b (o.mem0 i) g c (q.mem0 i) h d (t.mem0 i) u).mono ?_)
 rintro e_ v ⟨rfl, l⟩
 have m := i.call0 l
 refine ⟨_, rfl, ?_⟩
 refine wR 1 [(2, .bool k)] v (W_nil (N_then (G_ret ?_)))
 obtain rfl := Option.some.inj hm
 exact N_ret [.bool k] (rC RVs_nil) (⟨rfl, m.pk []⟩)
theorem c_i_inside (w : World) (b : Int) (d : Int) (c : Int) {r : Bool} (hm : M.i_inside b d c = some r) :
  Calls Try.prog 74 #[iv b, iv d, iv c] w fun e w' => e = .returned (.bool r) ∧ Mem [] w w' [] := by
 unfold M.i_inside at hm
 refine cE Try.func74 ?_
 have M0 := Mem.refl [] w
 refine G_seq (G_region (wR 1 [(0, iv b), (1, iv d), (2, iv c)] w (W_nil (N_then (G_seq ?_)))))
 obtain ⟨g, k, j⟩ := gx_bind hm
 refine G_meet (fun a w' => Mem [] w w' [] ∧ Sat Try.f74.ntmps [(6, .bool g)] a) ?_ ?_
 ·have hm := k
  refine G_region (wR 4 [(0, iv b), (2, iv c), (10, .bool (decide (b ≥ d)))] w ?_)
  rcases gx_bif hm with ⟨f, hm⟩ | ⟨f, hm⟩
  ·refine wK 10 true f (wR 5 [(6, .bool (decide (b ≤ c)))] w (W_nil ?_))
   obtain rfl := Option.some.inj hm
   exact N_meet fun a ha => ⟨M0.pk [], ha.s⟩
  refine wK 10 false f (wR 5 [(6, .bool false)] w (W_nil ?_))
  obtain rfl := Option.some.inj hm
  exact N_meet fun a ha => ⟨M0.pk [], ha.s⟩
 intro l m ⟨h, i⟩
 refine N_use i ?_
 have hm := j
 refine N_then (G_ret ?_)
 obtain rfl := Option.some.inj hm
 exact N_ret [.bool g] (rC RVs_nil) (⟨rfl, h.pk []⟩)
theorem c_i_isWord16 (w : World) (a : Int) {r : Bool} (hm : M.i_isWord16 a = some r) :
  Calls Try.prog 94 #[iv a] w fun e w' => e = .returned (.bool r) ∧ Mem [] w w' [] := by
 unfold M.i_isWord16 at hm
 refine cE Try.func94 ?_
 have M0 := Mem.refl [] w
 refine G_seq (G_region (wR 1 [(0, iv a)] w (W_nil (N_then (G_seq (G_region (wR 1 [(3, iv a)] w ?_)))))))
 obtain ⟨b, f, hm⟩ := gx_bind hm
 refine wC 74 #[iv a, iv 0, iv 65535] ((c_i_inside w a 0 65535 f).mono ?_)
 rintro e_ g ⟨rfl, c⟩
 have d := M0.call0 c
 refine ⟨_, rfl, ?_⟩
 refine wR 1 [(2, .bool b)] g (W_nil (N_then (G_ret ?_)))
 obtain rfl := Option.some.inj hm
 exact N_ret [.bool b] (rC RVs_nil) (⟨rfl, d.pk []⟩)
theorem c_i_isMemory_1 (w : World) (a : Int) {r : Bool} (hm : M.i_isMemory_1 a = some r) :
  Calls Try.prog 93 #[iv a] w fun e w' => e = .returned (.bool r) ∧ Mem [] w w' [] := by
 unfold M.i_isMemory_1 at hm
 refine cE Try.func93 ?_
 have M0 := Mem.refl [] w
 refine G_seq (G_region (wR 1 [(0, iv a)] w (W_nil (N_then (G_seq (G_region (wR 1 [(3, iv a)] w ?_)))))))
 obtain ⟨b, f, hm⟩ := gx_bind hm
 refine wC 94 #[iv a] ((c_i_isWord16 w a f).mono ?_)
 rintro e_ g ⟨rfl, c⟩
 have d := M0.call0 c
 refine ⟨_, rfl, ?_⟩
 refine wR 2 [(2, .bool (!b))] g (W_nil (N_then (G_ret ?_)))
 obtain rfl := Option.some.inj hm
 exact N_ret [.bool (!b)] (rC RVs_nil) (⟨rfl, d.pk []⟩)
theorem c_slices_IndexFunc_105__i_isMemory_1 (w : World) (b : List Int) (d : Option Addr) (f : Nat) (m : rdS Gx.encI w b d f) {r : Int} (hm : M.slices_IndexFunc_105__i_isMemory_1 b = some r) :
  Calls Try.prog 105 #[.slice d b.length f, .func (.func 93) #[] #[]] w fun e w' => e = .returned (iv r) ∧ Mem [] w w' [] := by
 unfold M.slices_IndexFunc_105__i_isMemory_1 at hm
 refine cE Try.func105 ?_
 have M0 := Mem.refl [] w
 refine G_seq (G_region (wR 1 [(0, .slice d b.length f), (1, .func (.func 93) #[] #[])] w (W_nil (N_then (G_seq (G_seq (G_region (wR 3 [(0, .slice d b.length f), (1, .func (.func 93) #[] #[]), (7, iv (b.length : Int)), (8, iv 0)] w (W_nil (N_then ?_))))))))))
 obtain ⟨C, B, n⟩ := gx_bind hm
 refine G_meet (fun a w' => ∃ (t : Unit), C = .inl t ∧ Mem [] w w' [] ∧ Sat Try.f105.ntmps [] a) ?_ ?_
 ·refine G_block (G_while (σ := Int) (ρ := (Unit) ⊕ (Int)) (fun c a w' => Mem [] w w' [] ∧ Sat Try.f105.ntmps [(0, .slice d b.length f), (1, .func (.func 93) #[] #[]), (7, iv (b.length : Int)), (8, iv c)] a) B (fun a ha => ⟨M0.pk [], ha.s⟩) ?_)
  clear hm
  intro c H hm o E g ⟨h, y⟩
  refine G_use y (G_seq (G_region (wR 1 [(0, .slice d b.length f), (1, .func (.func 93) #[] #[]), (7, iv (b.length : Int)), (8, iv c), (9, .bool (decide (c < (b.length : Int))))] g (W_nil (N_then (G_seq ?_))))))
  rcases gx_bif hm with ⟨i, hm⟩ | ⟨i, hm⟩
  ·refine gT i (G_skip (N_then (G_seq (G_block (G_seq (G_region (wR 2 [(0, .slice d b.length f), (1, .func (.func 93) #[] #[]), (5, iv c), (7, iv (b.length : Int)), (8, iv c)] g (W_nil (N_then (G_seq (G_region (wR 3 [(0, .slice d b.length f), (1, .func (.func 93) #[] #[]), (5, iv c), (7, iv (b.length : Int)), (8, iv c), (11, .func (.func 93) #[] #[]), (12, .slice d b.length f), (13, iv c)] g ?_))))))))))))
   obtain ⟨k, q, hm⟩ := gx_bind hm
   refine wV (elemP d (c.toNat * 1)) g (eI (m.mem0 h) rfl q) (wV (iv k) g (eE false 1 0 (c.toNat * 1) (m.mem0 h) q) ?_)
   obtain ⟨G, A, hm⟩ := gx_bind hm
   refine wC 93 #[iv k] ((c_i_isMemory_1 g k A).mono ?_)
   rintro e_ u ⟨rfl, v⟩
   have l := h.call0 v
   refine ⟨_, rfl, ?_⟩
   refine W_nil (N_then ?_)
   rcases gx_bif hm with ⟨j, hm⟩ | ⟨j, hm⟩
   ·refine gT j (G_seq (G_region (wR 2 [(4, iv c)] u (W_nil (N_then (G_ret (N_block_ret (N_then_ret (N_then_ret ?_)))))))))
    obtain rfl := Option.some.inj hm
    obtain rfl := o _ rfl
    have hm := n; simp only [Sum.elim_inr] at hm
    refine N_block_ret (N_meet_ret (N_then_ret ?_))
    obtain rfl := Option.some.inj hm
    exact N_ret [iv c] (rC RVs_nil) (⟨rfl, l.pk []⟩)
   refine gF j (G_skip (N_block (N_then (G_region (wR 2 [(0, .slice d b.length f), (1, .func (.func 93) #[] #[]), (7, iv (b.length : Int)), (8, iv (w64 (c + 1)))] u (W_nil ?_))))))
   obtain rfl := Option.some.inj hm
   exact N_loop fun a ha => ⟨_, rfl, l.pk [], ha.s⟩
  refine gF i (G_exit (N_then_exit (N_then_exit (N_block_eq ?_))))
  obtain rfl := Option.some.inj hm
  obtain rfl := o _ rfl
  exact N_meet fun a ha => ⟨_, rfl, h.pk [], ha.s⟩
 intro F D ⟨t, hout_, x, z⟩
 refine N_use z ?_
 subst hout_
 have hm := n; simp only [Sum.elim_inl] at hm
 refine N_then (G_seq (G_region (wR 1 [(4, iv (-1))] D (W_nil (N_then (G_ret ?_))))))
 obtain rfl := Option.some.inj hm
 exact N_ret [iv (-1)] (rC RVs_nil) (⟨rfl, x.pk []⟩)
theorem c_slices_ContainsFunc_92__i_isMemory_1 (w : World) (a : List Int) (c : Option Addr) (b : Nat) (h : rdS Gx.encI w a c b) {r : Bool} (hm : M.slices_ContainsFunc_92__i_isMemory_1 a = some r) :
  Calls Try.prog 92 #[.slice c a.length b, .func (.func 93) #[] #[]] w fun e w' => e = .returned (.bool r) ∧ Mem [] w w' [] := by
 unfold M.slices_ContainsFunc_92__i_isMemory_1 at hm
 refine cE Try.func92 ?_
 have M0 := Mem.refl [] w
 refine G_seq (G_region (wR 1 [(0, .slice c a.length b), (1, .func (.func 93) #[] #[])] w (W_nil (N_then (G_seq (G_region (wR 2 [(5, .slice c a.length b), (6, .func (.func 93) #[] #[])] w ?_)))))))
 obtain ⟨d, i, hm⟩ := gx_bind hm
 refine wC 105 #[.slice c a.length b, .func (.func 93) #[] #[]] ((c_slices_IndexFunc_105__i_isMemory_1 w a c b (h.mem0 M0) i).mono ?_)
 rintro e_ j ⟨rfl, f⟩
 have g := M0.call0 f
 refine ⟨_, rfl, ?_⟩
 refine wR 2 [(4, .bool (decide (d ≥ 0)))] j (W_nil (N_then (G_ret ?_)))
 obtain rfl := Option.some.inj hm
 exact N_ret [.bool (decide (d ≥ 0))] (rC RVs_nil) (⟨rfl, g.pk []⟩)
theorem c_i_isMemory (w : World) (b : List Int) (d : Option Addr) (c : Nat) (m : rdS Gx.encI w b d c) {r : Bool} (hm : M.i_isMemory b = some r) :
  Calls Try.prog 58 #[.slice d b.length c] w fun e w' => e = .returned (.bool r) ∧ Mem [] w w' [] := by
 unfold M.i_isMemory at hm
 refine cE Try.func58 ?_
 have M0 := Mem.refl [] w
 refine G_seq (G_region (wR 1 [(0, .slice d b.length c)] w (W_nil (N_then (G_seq ?_)))))
 obtain ⟨h, q, o⟩ := gx_bind hm
 refine G_meet (fun a w' => Mem [] w w' [] ∧ Sat Try.f58.ntmps [(2, .bool h)] a) ?_ ?_
 ·have hm := q
  refine G_region (wR 2 [(0, .slice d b.length c), (4, iv (b.length : Int))] w ?_)
  obtain ⟨v, t, hm⟩ := gx_bind hm
  refine wC 74 #[iv (b.length : Int), iv 1, iv 12] ((c_i_inside w (b.length : Int) 1 12 t).mono ?_)
  rintro e_ w646 ⟨rfl, i⟩
  have f := M0.call0 i
  refine ⟨_, rfl, ?_⟩
  refine wR 1 [(0, .slice d b.length c), (6, .bool v)] w646 ?_
  rcases gx_bif hm with ⟨g, hm⟩ | ⟨g, hm⟩
  ·refine wK 6 true g (wR 1 [(6, .bool true), (7, .slice d b.length c)] w646 ?_)
   obtain ⟨x, u, hm⟩ := gx_bind hm
   refine wC 92 #[.slice d b.length c, .func (.func 93) #[] #[]] ((c_slices_ContainsFunc_92__i_isMemory_1 w646 b d c (m.mem0 f) u).mono ?_)
   rintro e_ y ⟨rfl, j⟩
   have k := f.call0 j
   refine ⟨_, rfl, ?_⟩
   refine wR 3 [(2, .bool (!x))] y (W_nil ?_)
   obtain rfl := Option.some.inj hm
   exact N_meet fun a ha => ⟨k.pk [], ha.s⟩
  refine wK 6 false g (wR 5 [(2, .bool false)] w646 (W_nil ?_))
  obtain rfl := Option.some.inj hm
  exact N_meet fun a ha => ⟨f.pk [], ha.s⟩
 intro z A ⟨l, n⟩
 refine N_use n ?_
 have hm := o
 refine N_then (G_ret ?_)
 obtain rfl := Option.some.inj hm
 exact N_ret [.bool h] (rC RVs_nil) (⟨rfl, l.pk []⟩)
theorem c_i_IsCopying (w : World) (b : Copying) (f : Option Addr) (g : Nat) (A : rdS Gx.encI w b.Memory f g) (i : Option Addr) (k : Nat) (B : rdS Gx.encI w b.Copy i k) (m : Option Addr) (n : Nat) (K : rdS Gx.encB w b.Dirty m n) {r : Bool} (hm : M.i_IsCopying b = some r) :
  Calls Try.prog 16 #[.agg #[.slice f b.Memory.length g, .slice i b.Copy.length k, .slice m b.Dirty.length n]] w fun e w' => e = .returned (.bool r) ∧ Mem [] w w' [] := by
 unfold M.i_IsCopying at hm
 refine cE Try.func16 ?_
 have M0 := Mem.refl [] w
 refine G_seq (G_region (wN (.cells ⟨[.slice f b.Memory.length g, .slice i b.Copy.length k, .slice m b.Dirty.length n]⟩ 28 (0, 0)) M0 ?_))
 intro c v y
 refine wR 1 [(1, pB c 0)] v (W_nil (N_then (G_seq (G_seq ?_))))
 obtain ⟨aj, ae, ac⟩ := gx_bind hm
 refine G_meet (fun a w' => Mem [] w w' [[(c, .cells ⟨[.slice f b.Memory.length g, .slice i b.Copy.length k, .slice m b.Dirty.length n]⟩ 28 (0, 0))]] ∧ Sat Try.f16.ntmps [(1, pB c 0), (32, .bool aj)] a) ?_ ?_
 ·have hm := ae
  refine G_region (wR 1 [(1, pB c 0), (5, pB c 0)] v (wV (.slice f b.Memory.length g) v (eL false 1 0 (y.blk 0 rfl)) ?_))
  obtain ⟨am, ag, hm⟩ := gx_bind hm
  refine wC 58 #[.slice f b.Memory.length g] ((c_i_isMemory v b.Memory f g (A.mem0 y) ag).mono ?_)
  rintro e_ q ⟨rfl, V⟩
  have u := y.call0 V
  refine ⟨_, rfl, ?_⟩
  refine wR 2 [(1, pB c 0), (9, .bool (!am))] q ?_
  rcases gx_bif hm with ⟨C, hm⟩ | ⟨C, hm⟩
  ·refine wK 9 true C (wR 23 [(1, pB c 0), (32, .bool true)] q (W_nil ?_))
   obtain rfl := Option.some.inj hm
   exact N_meet fun a ha => ⟨u.pk [0], ha.s⟩
  refine wK 9 false C (wR 1 [(1, pB c 0), (9, .bool false), (10, pB c 1)] q (wV (.slice i b.Copy.length k) q (eL false 1 1 (u.blk 0 rfl)) ?_))
  obtain ⟨an, ah, hm⟩ := gx_bind hm
  refine wC 58 #[.slice i b.Copy.length k] ((c_i_isMemory q b.Copy i k (B.mem0 u) ah).mono ?_)
  rintro e_ j ⟨rfl, W⟩
  have o := u.call0 W
  refine ⟨_, rfl, ?_⟩
  refine wR 3 [(1, pB c 0), (15, .bool (!an))] j ?_
  rcases gx_bif hm with ⟨D, hm⟩ | ⟨D, hm⟩
  ·refine wK 15 true D (wR 17 [(1, pB c 0), (32, .bool true)] j (W_nil ?_))
   obtain rfl := Option.some.inj hm
   exact N_meet fun a ha => ⟨o.pk [0], ha.s⟩
  refine wK 15 false D (wR 1 [(1, pB c 0), (15, .bool false), (16, pB c 1)] j (wV (.slice i b.Copy.length k) j (eL false 1 1 (o.blk 0 rfl)) (wR 2 [(1, pB c 0), (15, .bool false), (18, iv (b.Copy.length : Int)), (19, pB c 0)] j (wV (.slice f b.Memory.length g) j (eL false 1 0 (o.blk 0 rfl)) (wR 4 [(1, pB c 0), (24, .bool ((b.Copy.length : Int) != (b.Memory.length : Int)))] j ?_)))))
  rcases gx_bif hm with ⟨E, hm⟩ | ⟨E, hm⟩
  ·refine wK 24 true E (wR 8 [(1, pB c 0), (32, .bool true)] j (W_nil ?_))
   obtain rfl := Option.some.inj hm
   exact N_meet fun a ha => ⟨o.pk [0], ha.s⟩
  refine wK 24 false E (wR 1 [(1, pB c 0), (24, .bool false), (25, pB c 2)] j (wV (.slice m b.Dirty.length n) j (eL false 1 2 (o.blk 0 rfl)) (wR 2 [(1, pB c 0), (24, .bool false), (27, iv (b.Dirty.length : Int)), (28, pB c 0)] j (wV (.slice f b.Memory.length g) j (eL false 1 0 (o.blk 0 rfl)) (wR 3 [(1, pB c 0), (32, .bool ((b.Dirty.length : Int) != (b.Memory.length : Int)))] j (W_nil ?_))))))
  obtain rfl := Option.some.inj hm
  exact N_meet fun a ha => ⟨o.pk [0], ha.s⟩
 intro ap x ⟨z, Y⟩
 refine N_use Y ?_
 have hm := ac
 refine N_then ?_
 rcases gx_bif hm with ⟨F, hm⟩ | ⟨F, hm⟩
 ·refine gT F (G_seq (G_region (wR 1 [(2, .bool false)] x (W_nil (N_then (G_ret (N_then_ret ?_)))))))
  obtain rfl := Option.some.inj hm
  exact N_ret [.bool false] (rC RVs_nil) (⟨rfl, z.pk []⟩)
 refine gF F (G_skip (N_then (G_seq (G_seq (G_region (wR 1 [(1, pB c 0), (33, pB c 0)] x (wV (.slice f b.Memory.length g) x (eL false 1 0 (z.blk 0 rfl)) (wR 2 [(1, pB c 0), (34, .slice f b.Memory.length g), (35, iv (b.Memory.length : Int)), (36, iv 0)] x (W_nil (N_then ?_))))))))))
 obtain ⟨al, ai, L⟩ := gx_bind hm
 refine G_meet (fun a w' => ∃ (R : Unit), al = .inl R ∧ Mem [] w w' [] ∧ Sat Try.f16.ntmps [] a) ?_ ?_
 ·refine G_block (G_while (σ := Int) (ρ := (Unit) ⊕ (Bool)) (fun d a w' => Mem [] w w' [[(c, .cells ⟨[.slice f b.Memory.length g, .slice i b.Copy.length k, .slice m b.Dirty.length n]⟩ 28 (0, 0))]] ∧ Sat Try.f16.ntmps [(1, pB c 0), (34, .slice f b.Memory.length g), (35, iv (b.Memory.length : Int)), (36, iv d)] a) ai (fun a ha => ⟨z.pk [0], ha.s⟩) ?_)
  clear hm
  intro d av hm N aq h ⟨l, Z⟩
  refine G_use Z (G_seq (G_region (wR 1 [(1, pB c 0), (34, .slice f b.Memory.length g), (35, iv (b.Memory.length : Int)), (36, iv d), (37, .bool (decide (d < (b.Memory.length : Int))))] h (W_nil (N_then (G_seq ?_))))))
  rcases gx_bif hm with ⟨G, hm⟩ | ⟨G, hm⟩
  ·refine gT G (G_skip (N_then (G_seq (G_block (G_seq (G_region (wR 1 [(1, pB c 0), (34, .slice f b.Memory.length g), (35, iv (b.Memory.length : Int)), (36, iv d), (38, iv d)] h ?_)))))))
   obtain ⟨t, O, hm⟩ := gx_bind hm
   refine wV (elemP f (d.toNat * 1)) h (eI (A.mem0 l) rfl O) (wV (iv t) h (eE false 1 0 (d.toNat * 1) (A.mem0 l) O) (wR 2 [(1, pB c 0), (3, iv d), (4, iv t), (34, .slice f b.Memory.length g), (35, iv (b.Memory.length : Int)), (36, iv d)] h (W_nil (N_then (G_seq ?_)))))
   obtain ⟨ak, af, ad⟩ := gx_bind hm
   refine G_meet (fun a w' => Mem [] w w' [[(c, .cells ⟨[.slice f b.Memory.length g, .slice i b.Copy.length k, .slice m b.Dirty.length n]⟩ 28 (0, 0))]] ∧ Sat Try.f16.ntmps [(1, pB c 0), (34, .slice f b.Memory.length g), (35, iv (b.Memory.length : Int)), (36, iv d), (55, .bool ak)] a) ?_ ?_
   ·have hm := af
    refine G_region (wR 1 [(1, pB c 0), (3, iv d), (4, iv t), (34, .slice f b.Memory.length g), (35, iv (b.Memory.length : Int)), (36, iv d), (41, pB c 1)] h (wV (.slice i b.Copy.length k) h (eL false 1 1 (l.blk 0 rfl)) (wR 1 [(1, pB c 0), (3, iv d), (4, iv t), (34, .slice f b.Memory.length g), (35, iv (b.Memory.length : Int)), (36, iv d), (42, .slice i b.Copy.length k), (43, iv d)] h ?_)))
    obtain ⟨T, P, hm⟩ := gx_bind hm
    refine wV (elemP i (d.toNat * 1)) h (eI (B.mem0 l) rfl P) (wV (iv T) h (eE false 1 0 (d.toNat * 1) (B.mem0 l) P) (wR 3 [(1, pB c 0), (3, iv d), (34, .slice f b.Memory.length g), (35, iv (b.Memory.length : Int)), (36, iv d), (48, .bool (T != t))] h ?_))
    rcases gx_bif hm with ⟨H, hm⟩ | ⟨H, hm⟩
    ·refine wK 48 true H (wR 1 [(1, pB c 0), (3, iv d), (34, .slice f b.Memory.length g), (35, iv (b.Memory.length : Int)), (36, iv d), (48, .bool true), (49, pB c 2)] h (wV (.slice m b.Dirty.length n) h (eL false 1 2 (l.blk 0 rfl)) (wR 1 [(1, pB c 0), (34, .slice f b.Memory.length g), (35, iv (b.Memory.length : Int)), (36, iv d), (48, .bool true), (50, .slice m b.Dirty.length n), (51, iv d)] h ?_)))
     obtain ⟨U, Q, hm⟩ := gx_bind hm
     refine wV (elemP m (d.toNat * 1)) h (eI (K.mem0 l) rfl Q) (wV (.bool U) h (eE false 1 0 (d.toNat * 1) (K.mem0 l) Q) (wR 2 [(1, pB c 0), (34, .slice f b.Memory.length g), (35, iv (b.Memory.length : Int)), (36, iv d), (55, .bool (!U))] h (W_nil ?_)))
     obtain rfl := Option.some.inj hm
     exact N_meet fun a ha => ⟨l.pk [0], ha.s⟩
    refine wK 48 false H (wR 7 [(1, pB c 0), (34, .slice f b.Memory.length g), (35, iv (b.Memory.length : Int)), (36, iv d), (55, .bool false)] h (W_nil ?_))
    obtain rfl := Option.some.inj hm
    exact N_meet fun a ha => ⟨l.pk [0], ha.s⟩
   intro ar S ⟨J, aa⟩
   refine N_use aa ?_
   have hm := ad
   refine N_then ?_
   rcases gx_bif hm with ⟨I, hm⟩ | ⟨I, hm⟩
   ·refine gT I (G_seq (G_region (wR 1 [(2, .bool false)] S (W_nil (N_then (G_ret (N_block_ret (N_then_ret (N_then_ret ?_)))))))))
    obtain rfl := Option.some.inj hm
    obtain rfl := N _ rfl
    have hm := L; simp only [Sum.elim_inr] at hm
    refine N_block_ret (N_meet_ret (N_then_ret ?_))
    obtain rfl := Option.some.inj hm
    exact N_ret [.bool false] (rC RVs_nil) (⟨rfl, J.pk []⟩)
   refine gF I (G_skip (N_block (N_then (G_region (wR 2 [(1, pB c 0), (34, .slice f b.Memory.length g), (35, iv (b.Memory.length : Int)), (36, iv (w64 (d + 1)))] S (W_nil ?_))))))
   obtain rfl := Option.some.inj hm
   exact N_loop fun a ha => ⟨_, rfl, J.pk [0], ha.s⟩
  refine gF G (G_exit (N_then_exit (N_then_exit (N_block_eq ?_))))
  obtain rfl := Option.some.inj hm
  obtain rfl := N _ rfl
  exact N_meet fun a ha => ⟨_, rfl, l.pk [], ha.s⟩
 intro au ao ⟨R, hout_, X, ab⟩
 refine N_use ab ?_
 subst hout_
 have hm := L; simp only [Sum.elim_inl] at hm
 refine N_then (G_seq (G_region (wR 1 [(2, .bool true)] ao (W_nil (N_then (G_ret ?_))))))
 obtain rfl := Option.some.inj hm
 exact N_ret [.bool true] (rC RVs_nil) (⟨rfl, X.pk []⟩)
theorem c_l_eqIntS (w : World) (c : List Int) (f : Option Addr) (h : Nat) (t : rdS Gx.encI w c f h) (d : List Int) (g : Option Addr) (i : Nat) (u : rdS Gx.encI w d g i) {r : Bool} (hm : M.l_eqIntS c d = some r) :
  Calls Try.prog 21 #[.slice f c.length h, .slice g d.length i] w fun e w' => e = .returned (.bool r) ∧ Mem [] w w' [] := by
 unfold M.l_eqIntS at hm
 refine cE Try.func21 ?_
 have M0 := Mem.refl [] w
 refine G_seq (G_region (wR 1 [(0, .slice f c.length h), (1, .slice g d.length i)] w (W_nil (N_then (G_seq (G_seq (G_region (wR 5 [(0, .slice f c.length h), (1, .slice g d.length i), (10, .bool ((c.length : Int) != (d.length : Int)))] w (W_nil (N_then ?_))))))))))
 rcases gx_bif hm with ⟨k, hm⟩ | ⟨k, hm⟩
 ·refine gT k (G_seq (G_region (wR 1 [(4, .bool false)] w (W_nil (N_then (G_ret (N_then_ret ?_)))))))
  obtain rfl := Option.some.inj hm
  exact N_ret [.bool false] (rC RVs_nil) (⟨rfl, M0.pk []⟩)
 refine gF k (G_skip (N_then (G_seq (G_seq (G_region (wR 1 [(0, .slice f c.length h), (1, .slice g d.length i), (5, iv 0)] w (W_nil (N_then ?_))))))))
 obtain ⟨G, F, v⟩ := gx_bind hm
 refine G_meet (fun a w' => ∃ (A : Unit), G = .inl A ∧ Mem [] w w' [] ∧ Sat Try.f21.ntmps [] a) ?_ ?_
 ·refine G_block (G_while (σ := Int) (ρ := (Unit) ⊕ (Bool)) (fun b a w' => Mem [] w w' [] ∧ Sat Try.f21.ntmps [(0, .slice f c.length h), (1, .slice g d.length i), (5, iv b)] a) F (fun a ha => ⟨M0.pk [], ha.s⟩) ?_)
  clear hm
  intro b L hm x J H ⟨o, D⟩
  refine G_use D (G_seq (G_seq (G_region (wR 4 [(0, .slice f c.length h), (1, .slice g d.length i), (5, iv b), (14, .bool (decide (b < (c.length : Int))))] H (W_nil (N_then ?_))))))
  rcases gx_bif hm with ⟨l, hm⟩ | ⟨l, hm⟩
  ·refine gT l (G_skip (N_then (G_seq (G_block (G_seq (G_quiet (by kernel_rfl) (by kernel_rfl) o (zR [.slice f c.length h, iv b] [(0, .slice f c.length h), (1, .slice g d.length i), (5, iv b), (17, .slice f c.length h), (18, iv b)] ?_)))))))
   obtain ⟨j, y, hm⟩ := gx_bind hm
   refine zV (elemP f (b.toNat * 1)) (fun w_ M_ => (eI (t.mem0 M_) rfl y)) (zV (iv j) (fun w_ M_ => (eE false 1 0 (b.toNat * 1) (t.mem0 M_) y)) (zR [.slice g d.length i, iv b] [(0, .slice f c.length h), (1, .slice g d.length i), (5, iv b), (20, iv j), (21, .slice g d.length i), (22, iv b)] ?_))
   obtain ⟨n, z, hm⟩ := gx_bind hm
   refine zV (elemP g (b.toNat * 1)) (fun w_ M_ => (eI (u.mem0 M_) rfl z)) (zV (iv n) (fun w_ M_ => (eE false 1 0 (b.toNat * 1) (u.mem0 M_) z)) (zR [.bool (j != n)] [(0, .slice f c.length h), (1, .slice g d.length i), (5, iv b), (25, .bool (j != n))] (Z_end fun B q => (N_then ?_))))
   rcases gx_bif hm with ⟨m, hm⟩ | ⟨m, hm⟩
   ·refine gT m (G_seq (G_region (wR 1 [(4, .bool false)] B (W_nil (N_then (G_ret (N_block_ret (N_then_ret (N_then_ret ?_)))))))))
    obtain rfl := Option.some.inj hm
    obtain rfl := x _ rfl
    have hm := v; simp only [Sum.elim_inr] at hm
    refine N_block_ret (N_meet_ret (N_then_ret ?_))
    obtain rfl := Option.some.inj hm
    exact N_ret [.bool false] (rC RVs_nil) (⟨rfl, q.pk []⟩)
   refine gF m (G_skip (N_block (N_then (G_region (wR 3 [(0, .slice f c.length h), (1, .slice g d.length i), (5, iv (w64 (b + 1)))] B (W_nil ?_))))))
   obtain rfl := Option.some.inj hm
   exact N_loop fun a ha => ⟨_, rfl, q.pk [], ha.s⟩
  refine gF l (G_exit (N_then_exit (N_then_exit (N_block_eq ?_))))
  obtain rfl := Option.some.inj hm
  obtain rfl := x _ rfl
  exact N_meet fun a ha => ⟨_, rfl, o.pk [], ha.s⟩
 intro K I ⟨A, hout_, C, E⟩
 refine N_use E ?_
 subst hout_
 have hm := v; simp only [Sum.elim_inl] at hm
 refine N_then (G_seq (G_region (wR 1 [(4, .bool true)] I (W_nil (N_then (G_ret ?_))))))
 obtain rfl := Option.some.inj hm
 exact N_ret [.bool true] (rC RVs_nil) (⟨rfl, C.pk []⟩)
theorem c_l_eqBoolS (w : World) (c : List Bool) (f : Option Addr) (h : Nat) (t : rdS Gx.encB w c f h) (d : List Bool) (g : Option Addr) (i : Nat) (u : rdS Gx.encB w d g i) {r : Bool} (hm : M.l_eqBoolS c d = some r) :
  Calls Try.prog 59 #[.slice f c.length h, .slice g d.length i] w fun e w' => e = .returned (.bool r) ∧ Mem [] w w' [] := by
 unfold M.l_eqBoolS at hm
 refine cE Try.func59 ?_
 have M0 := Mem.refl [] w
 refine G_seq (G_region (wR 1 [(0, .slice f c.length h), (1, .slice g d.length i)] w (W_nil (N_then (G_seq (G_seq (G_region (wR 5 [(0, .slice f c.length h), (1, .slice g d.length i), (10, .bool ((c.length : Int) != (d.length : Int)))] w (W_nil (N_then ?_))))))))))
 rcases gx_bif hm with ⟨k, hm⟩ | ⟨k, hm⟩
 ·refine gT k (G_seq (G_region (wR 1 [(4, .bool false)] w (W_nil (N_then (G_ret (N_then_ret ?_)))))))
  obtain rfl := Option.some.inj hm
  exact N_ret [.bool false] (rC RVs_nil) (⟨rfl, M0.pk []⟩)
 refine gF k (G_skip (N_then (G_seq (G_seq (G_region (wR 1 [(0, .slice f c.length h), (1, .slice g d.length i), (5, iv 0)] w (W_nil (N_then ?_))))))))
 obtain ⟨G, F, v⟩ := gx_bind hm
 refine G_meet (fun a w' => ∃ (A : Unit), G = .inl A ∧ Mem [] w w' [] ∧ Sat Try.f59.ntmps [] a) ?_ ?_
 ·refine G_block (G_while (σ := Int) (ρ := (Unit) ⊕ (Bool)) (fun b a w' => Mem [] w w' [] ∧ Sat Try.f59.ntmps [(0, .slice f c.length h), (1, .slice g d.length i), (5, iv b)] a) F (fun a ha => ⟨M0.pk [], ha.s⟩) ?_)
  clear hm
  intro b L hm x J H ⟨o, D⟩
  refine G_use D (G_seq (G_seq (G_region (wR 4 [(0, .slice f c.length h), (1, .slice g d.length i), (5, iv b), (14, .bool (decide (b < (c.length : Int))))] H (W_nil (N_then ?_))))))
  rcases gx_bif hm with ⟨l, hm⟩ | ⟨l, hm⟩
  ·refine gT l (G_skip (N_then (G_seq (G_block (G_seq (G_quiet (by kernel_rfl) (by kernel_rfl) o (zR [.slice f c.length h, iv b] [(0, .slice f c.length h), (1, .slice g d.length i), (5, iv b), (17, .slice f c.length h), (18, iv b)] ?_)))))))
   obtain ⟨j, y, hm⟩ := gx_bind hm
   refine zV (elemP f (b.toNat * 1)) (fun w_ M_ => (eI (t.mem0 M_) rfl y)) (zV (.bool j) (fun w_ M_ => (eE false 1 0 (b.toNat * 1) (t.mem0 M_) y)) (zR [.slice g d.length i, iv b] [(0, .slice f c.length h), (1, .slice g d.length i), (5, iv b), (20, .bool j), (21, .slice g d.length i), (22, iv b)] ?_))
   obtain ⟨n, z, hm⟩ := gx_bind hm
   refine zV (elemP g (b.toNat * 1)) (fun w_ M_ => (eI (u.mem0 M_) rfl z)) (zV (.bool n) (fun w_ M_ => (eE false 1 0 (b.toNat * 1) (u.mem0 M_) z)) (zR [.bool (!(j == n))] [(0, .slice f c.length h), (1, .slice g d.length i), (5, iv b), (25, .bool (!(j == n)))] (Z_end fun B q => (N_then ?_))))
   rcases gx_bif hm with ⟨m, hm⟩ | ⟨m, hm⟩
   ·refine gT m (G_seq (G_region (wR 1 [(4, .bool false)] B (W_nil (N_then (G_ret (N_block_ret (N_then_ret (N_then_ret ?_)))))))))
    obtain rfl := Option.some.inj hm
    obtain rfl := x _ rfl
    have hm := v; simp only [Sum.elim_inr] at hm
    refine N_block_ret (N_meet_ret (N_then_ret ?_))
    obtain rfl := Option.some.inj hm
    exact N_ret [.bool false] (rC RVs_nil) (⟨rfl, q.pk []⟩)
   refine gF m (G_skip (N_block (N_then (G_region (wR 3 [(0, .slice f c.length h), (1, .slice g d.length i), (5, iv (w64 (b + 1)))] B (W_nil ?_))))))
   obtain rfl := Option.some.inj hm
   exact N_loop fun a ha => ⟨_, rfl, q.pk [], ha.s⟩
  refine gF l (G_exit (N_then_exit (N_then_exit (N_block_eq ?_))))
  obtain rfl := Option.some.inj hm
  obtain rfl := x _ rfl
  exact N_meet fun a ha => ⟨_, rfl, o.pk [], ha.s⟩
 intro K I ⟨A, hout_, C, E⟩
 refine N_use E ?_
 subst hout_
 have hm := v; simp only [Sum.elim_inl] at hm
 refine N_then (G_seq (G_region (wR 1 [(4, .bool true)] I (W_nil (N_then (G_ret ?_))))))
 obtain rfl := Option.some.inj hm
 exact N_ret [.bool true] (rC RVs_nil) (⟨rfl, C.pk []⟩)
theorem c_l_eqCopying (w : World) (a : Copying) (i : Option Addr) (f : Nat) (K : rdS Gx.encI w a.Memory i f) (j : Option Addr) (g : Nat) (L : rdS Gx.encI w a.Copy j g) (k : Option Addr) (h : Nat) (N : rdS Gx.encB w a.Dirty k h) (b : Copying) (v : Option Addr) (q : Nat) (O : rdS Gx.encI w b.Memory v q) (x : Option Addr) (t : Nat) (P : rdS Gx.encI w b.Copy x t) (y : Option Addr) (u : Nat) (Q : rdS Gx.encB w b.Dirty y u) {r : Bool} (hm : M.l_eqCopying a b = some r) :
  Calls Try.prog 17 #[.agg #[.slice i a.Memory.length f, .slice j a.Copy.length g, .slice k a.Dirty.length h], .agg #[.slice v b.Memory.length q, .slice x b.Copy.length t, .slice y b.Dirty.length u]] w fun e w' => e = .returned (.bool r) ∧ Mem [] w w' [] := by
 unfold M.l_eqCopying at hm
 refine cE Try.func17 ?_
 have M0 := Mem.refl [] w
 refine G_seq (G_region (wN (.cells ⟨[.slice i a.Memory.length f, .slice j a.Copy.length g, .slice k a.Dirty.length h]⟩ 28 (0, 0)) M0 ?_))
 intro d X J
 refine wN (.cells ⟨[.slice v b.Memory.length q, .slice x b.Copy.length t, .slice y b.Dirty.length u]⟩ 28 (0, 0)) J ?_
 intro c z A
 refine wR 1 [(2, pB d 0), (3, pB c 0)] z (W_nil (N_then (G_seq (G_seq (G_region (wR 1 [(2, pB d 0), (3, pB c 0), (5, pB d 0)] z (wV (.slice i a.Memory.length f) z (eL false 1 0 (A.blk 0 rfl)) (wR 1 [(2, pB d 0), (3, pB c 0), (6, .slice i a.Memory.length f), (7, pB c 0)] z (wV (.slice v b.Memory.length q) z (eL false 1 0 (A.blk 1 rfl)) ?_)))))))))
 obtain ⟨U, R, hm⟩ := gx_bind hm
 refine wC 21 #[.slice i a.Memory.length f, .slice v b.Memory.length q] ((c_l_eqIntS z a.Memory i f (K.mem0 A) b.Memory v q (O.mem0 A) R).mono ?_)
 rintro e_ l ⟨rfl, G⟩
 have n := A.call0 G
 refine ⟨_, rfl, ?_⟩
 refine wR 1 [(2, pB d 0), (3, pB c 0), (10, .bool (!U))] l (W_nil (N_then ?_))
 rcases gx_bif hm with ⟨B, hm⟩ | ⟨B, hm⟩
 ·refine gT B (G_seq (G_region (wR 1 [(4, .bool false)] l (W_nil (N_then (G_ret (N_then_ret ?_)))))))
  obtain rfl := Option.some.inj hm
  exact N_ret [.bool false] (rC RVs_nil) (⟨rfl, n.pk []⟩)
 refine gF B (G_skip (N_then (G_seq (G_seq (G_region (wR 1 [(2, pB d 0), (3, pB c 0), (11, pB d 1)] l (wV (.slice j a.Copy.length g) l (eL false 1 1 (n.blk 0 rfl)) (wR 1 [(2, pB d 0), (3, pB c 0), (12, .slice j a.Copy.length g), (13, pB c 1)] l (wV (.slice x b.Copy.length t) l (eL false 1 1 (n.blk 1 rfl)) ?_)))))))))
 obtain ⟨V, S, hm⟩ := gx_bind hm
 refine wC 21 #[.slice j a.Copy.length g, .slice x b.Copy.length t] ((c_l_eqIntS l a.Copy j g (L.mem0 n) b.Copy x t (P.mem0 n) S).mono ?_)
 rintro e_ m ⟨rfl, H⟩
 have o := n.call0 H
 refine ⟨_, rfl, ?_⟩
 refine wR 1 [(2, pB d 0), (3, pB c 0), (16, .bool (!V))] m (W_nil (N_then ?_))
 rcases gx_bif hm with ⟨C, hm⟩ | ⟨C, hm⟩
 ·refine gT C (G_seq (G_region (wR 1 [(4, .bool false)] m (W_nil (N_then (G_ret (N_then_ret ?_)))))))
  obtain rfl := Option.some.inj hm
  exact N_ret [.bool false] (rC RVs_nil) (⟨rfl, o.pk []⟩)
 refine gF C (G_skip (N_then (G_seq (G_seq (G_region (wR 1 [(3, pB c 0), (17, pB d 2)] m (wV (.slice k a.Dirty.length h) m (eL false 1 2 (o.blk 0 rfl)) (wR 1 [(18, .slice k a.Dirty.length h), (19, pB c 2)] m (wV (.slice y b.Dirty.length u) m (eL false 1 2 (o.blk 1 rfl)) ?_)))))))))
 obtain ⟨W, T, hm⟩ := gx_bind hm
 refine wC 59 #[.slice k a.Dirty.length h, .slice y b.Dirty.length u] ((c_l_eqBoolS m a.Dirty k h (N.mem0 o) b.Dirty y u (Q.mem0 o) T).mono ?_)
 rintro e_ E ⟨rfl, I⟩
 have F := o.call0 I
 refine ⟨_, rfl, ?_⟩
 refine wR 1 [(22, .bool (!W))] E (W_nil (N_then ?_))
 rcases gx_bif hm with ⟨D, hm⟩ | ⟨D, hm⟩
 ·refine gT D (G_seq (G_region (wR 1 [(4, .bool false)] E (W_nil (N_then (G_ret (N_then_ret ?_)))))))
  obtain rfl := Option.some.inj hm
  exact N_ret [.bool false] (rC RVs_nil) (⟨rfl, F.pk []⟩)
 refine gF D (G_skip (N_then (G_seq (G_region (wR 1 [(4, .bool true)] E (W_nil (N_then (G_ret ?_))))))))
 obtain rfl := Option.some.inj hm
 exact N_ret [.bool true] (rC RVs_nil) (⟨rfl, F.pk []⟩)
theorem c_l_FnExactIsCopying (w : World) (x1 : Copying) (p3 : Option Addr) (c4 : Nat) (h5 : rdS Gx.encI w x1.Memory p3 c4) (p7 : Option Addr) (c8 : Nat) (h9 : rdS Gx.encI w x1.Copy p7 c8) (c : Option Addr) (b : Nat) (Q : rdS Gx.encB w x1.Dirty c b) {r : Bool} (hm : M.l_FnExactIsCopying x1 = some r) :
  Calls Try.prog 3 #[.agg #[.slice p3 x1.Memory.length c4, .slice p7 x1.Copy.length c8, .slice c x1.Dirty.length b]] w fun e w' => e = .returned (.bool r) ∧ Mem [] w w' [] := by
 unfold M.l_FnExactIsCopying at hm
 refine cE Try.func3 ?_
 have M0 := Mem.refl [] w
 refine G_seq (G_region (wN (.cells ⟨[.slice p3 x1.Memory.length c4, .slice p7 x1.Copy.length c8, .slice c x1.Dirty.length b]⟩ 25 (0, 0)) M0 ?_))
 intro q K G
 refine wR 1 [(1, pB q 0)] K (W_nil (N_then (G_seq (G_region (wR 1 [(1, pB q 0), (3, iv 1048576)] K (W_nil (N_then (G_seq (G_region (wV (.agg #[.slice p3 x1.Memory.length c4, .slice p7 x1.Copy.length c8, .slice c x1.Dirty.length b]) K (eL true 3 0 (G.blk 0 rfl)) (wR 1 [(1, pB q 0), (3, iv 1048576), (7, .agg #[.slice p3 x1.Memory.length c4, .slice p7 x1.Copy.length c8, .slice c x1.Dirty.length b]), (8, iv 1048576)] K ?_)))))))))))
 obtain ⟨av, bl, hm⟩ := gx_bind hm
 refine wC 13 #[.agg #[.slice p3 x1.Memory.length c4, .slice p7 x1.Copy.length c8, .slice c x1.Dirty.length b], iv 1048576] ((c_l_szCopying K x1 p3 c4 (h5.mem0 G) p7 c8 (h9.mem0 G) c b (Q.mem0 G) 1048576 bl).mono ?_)
 rintro e_ L ⟨rfl, a8⟩
 have F := G.call0 a8
 refine ⟨_, rfl, ?_⟩
 refine wR 1 [(1, pB q 0), (3, iv av)] L (W_nil (N_then (G_seq (G_seq (G_region (wR 2 [(1, pB q 0), (11, .bool (decide (av < 0)))] L (W_nil (N_then ?_))))))))
 rcases gx_bif hm with ⟨V, hm⟩ | ⟨V, hm⟩
 ·refine gT V (G_seq (G_region (wR 1 [(2, .bool true)] L (W_nil (N_then (G_ret (N_then_ret ?_)))))))
  obtain rfl := Option.some.inj hm
  exact N_ret [.bool true] (rC RVs_nil) (⟨rfl, F.pk []⟩)
 refine gF V (G_skip (N_then (G_seq (G_region (wV (.agg #[.slice p3 x1.Memory.length c4, .slice p7 x1.Copy.length c8, .slice c x1.Dirty.length b]) L (eL true 3 0 (F.blk 0 rfl)) ?_)))))
 obtain ⟨S, bi, hm⟩ := gx_bind hm
 refine wC 15 #[.agg #[.slice p3 x1.Memory.length c4, .slice p7 x1.Copy.length c8, .slice c x1.Dirty.length b]] ((c_l_toCopying L x1 p3 c4 (h5.mem0 F) p7 c8 (h9.mem0 F) c b (Q.mem0 F) bi).mono ?_)
 rintro e_ bq ⟨aq, ak, aw, ar, al, ax, au, am, ay, rfl, bf, bg, bh, a5⟩
 have N := F.call a5
 refine ⟨_, rfl, ?_⟩
 obtain ⟨T, bj, hm⟩ := gx_bind hm
 refine wC 14 #[.agg #[.slice aq S.Memory.length ak, .slice ar S.Copy.length al, .slice au S.Dirty.length am]] ((c_s_IsCopying bq S aq ak (bf.rd N 1 (by kernel_rfl)) ar al (bg.rd N 2 (by kernel_rfl)) au am (bh.rd N 3 (by kernel_rfl)) bj).mono ?_)
 rintro e_ ac ⟨rfl, a6⟩
 have H := N.call0 a6
 refine ⟨_, rfl, ?_⟩
 refine wR 1 [(1, pB q 0), (4, .bool T)] ac (W_nil (N_then (G_seq (G_region (wV (.agg #[.slice p3 x1.Memory.length c4, .slice p7 x1.Copy.length c8, .slice c x1.Dirty.length b]) ac (eL true 3 0 (H.blk 0 rfl)) ?_)))))
 obtain ⟨a, bk, hm⟩ := gx_bind hm
 refine wC 15 #[.agg #[.slice p3 x1.Memory.length c4, .slice p7 x1.Copy.length c8, .slice c x1.Dirty.length b]] ((c_l_toCopying ac x1 p3 c4 (h5.mem0 H) p7 c8 (h9.mem0 H) c b (Q.mem0 H) bk).mono ?_)
 rintro e_ bu ⟨m, g, az, n, k, a0, o, l, a3, rfl, an, ao, ap, a7⟩
 have bc := H.call a7
 refine ⟨_, rfl, ?_⟩
 refine wN (.cells ⟨[.slice none 0 0, .slice none 0 0, .slice none 0 0]⟩ 28 (0, 0)) bc ?_
 intro J bv bd
 refine wS true 3 0 (.agg #[.slice m a.Memory.length g, .slice n a.Copy.length k, .slice o a.Dirty.length l]) 7 [.slice m a.Memory.length g, .slice n a.Copy.length k, .slice o a.Dirty.length l] bd rfl ?_
 intro a4 I
 refine W_nil (N_then (G_seq (G_region (wV (.agg #[.slice m a.Memory.length g, .slice n a.Copy.length k, .slice o a.Dirty.length l]) a4 (eL true 3 0 (I.blk 7 rfl)) ?_))))
 obtain ⟨ab, bm, hm⟩ := gx_bind hm
 refine wC 16 #[.agg #[.slice m a.Memory.length g, .slice n a.Copy.length k, .slice o a.Dirty.length l]] ((c_i_IsCopying a4 a m g (an.rd I 4 (by kernel_rfl)) n k (ao.rd I 5 (by kernel_rfl)) o l (ap.rd I 6 (by kernel_rfl)) bm).mono ?_)
 rintro e_ ad ⟨rfl, a9⟩
 have ag := I.call0 a9
 refine ⟨_, rfl, ?_⟩
 refine wR 1 [(1, pB q 0), (4, .bool T), (5, pB J 0), (6, .bool ab)] ad (W_nil (N_then (G_seq (G_seq (G_region (wR 3 [(1, pB q 0), (5, pB J 0), (21, .bool (!(ab == T)))] ad (W_nil (N_then ?_))))))))
 rcases gx_bif hm with ⟨W, hm⟩ | ⟨W, hm⟩
 ·refine gT W (G_seq (G_region (wR 1 [(2, .bool false)] ad (W_nil (N_then (G_ret (N_then_ret ?_)))))))
  obtain rfl := Option.some.inj hm
  exact N_ret [.bool false] (rC RVs_nil) (⟨rfl, ag.pk []⟩)
 refine gF W (G_skip (N_then (G_seq (G_seq ?_))))
 obtain ⟨d, bn, hm⟩ := gx_bind hm
 refine G_sub [(1, pB q 0), (5, pB J 0), (21, .bool (!(ab == T)))] (by kernel_rfl) (G_dagL 3 [[], [], [1]] [[], [], []] [[], [], []] [[], [], []] [[], [], []] [[], [], []] (fun _ => []) (fun i => ([fun f v s => v = (.agg #[.slice m a.Memory.length g, .slice n a.Copy.length k, .slice o a.Dirty.length l] : Value) ∧ s = [], fun f v s => v = (.agg #[.slice p3 x1.Memory.length c4, .slice p7 x1.Copy.length c8, .slice c x1.Dirty.length b] : Value) ∧ s = [], fun f v s => ∃ (y : Option Addr) (t : Nat) (C : Seg), ∃ (z : Option Addr) (u : Nat) (D : Seg), ∃ (A : Option Addr) (x : Nat) (E : Seg), v = (.agg #[.slice y d.Memory.length t, .slice z d.Copy.length u, .slice A d.Dirty.length x] : Value) ∧ s = (C ++ (D ++ E)) ∧ ownS Gx.encI d.Memory y t C ∧ ownS Gx.encI d.Copy z u D ∧ ownS Gx.encB d.Dirty A x E] : List ((Nat → Value) → Value → Seg → Prop)).getD i (fun _ _ _ => False)) (fun j f v => ∃ s, (fun i => ([fun f v s => v = (.agg #[.slice m a.Memory.length g, .slice n a.Copy.length k, .slice o a.Dirty.length l] : Value) ∧ s = [], fun f v s => v = (.agg #[.slice p3 x1.Memory.length c4, .slice p7 x1.Copy.length c8, .slice c x1.Dirty.length b] : Value) ∧ s = [], fun f v s => ∃ (y : Option Addr) (t : Nat) (C : Seg), ∃ (z : Option Addr) (u : Nat) (D : Seg), ∃ (A : Option Addr) (x : Nat) (E : Seg), v = (.agg #[.slice y d.Memory.length t, .slice z d.Copy.length u, .slice A d.Dirty.length x] : Value) ∧ s = (C ++ (D ++ E)) ∧ ownS Gx.encI d.Memory y t C ∧ ownS Gx.encI d.Copy z u D ∧ ownS Gx.encB d.Dirty A x E] : List ((Nat → Value) → Value → Seg → Prop)).getD i (fun _ _ _ => False)) j f v s) [] [0, 2] [2] (fun _ _ _ s h => ⟨s, h⟩) (by kernel_rfl) (by kernel_rfl) (ag.preNil 3) (by kernel_rfl) (by kernel_rfl) (by kernel_rfl) (by kernel_rfl) (allOb_cons ?_ (allOb_cons ?_ (allOb_cons ?_ allOb_nil))) ?_)
 ·intro P U
  intro R br ah
  exact wV (.agg #[.slice m a.Memory.length g, .slice n a.Copy.length k, .slice o a.Dirty.length l]) br (eL true 3 0 (ah.blk 7 rfl)) (W_nil (oE (.agg #[.slice m a.Memory.length g, .slice n a.Copy.length k, .slice o a.Dirty.length l]) [] ⟨by kernel_rfl, rfl⟩ ah))
 ·intro P U
  intro R bs ai
  exact wV (.agg #[.slice p3 x1.Memory.length c4, .slice p7 x1.Copy.length c8, .slice c x1.Dirty.length b]) bs (eL true 3 0 (ai.blk 0 rfl)) (W_nil (oE (.agg #[.slice p3 x1.Memory.length c4, .slice p7 x1.Copy.length c8, .slice c x1.Dirty.length b]) [] ⟨by kernel_rfl, rfl⟩ ai))
 ·intro P U
  intro v1_ hb1_
  obtain ⟨rfl, _⟩ := hb1_
  intro R bt O
  refine wC 15 #[.agg #[.slice p3 x1.Memory.length c4, .slice p7 x1.Copy.length c8, .slice c x1.Dirty.length b]] ((c_l_toCopying bt x1 p3 c4 (h5.mem0 O) p7 c8 (h9.mem0 O) c b (Q.mem0 O) bn).mono ?_)
  rintro e_ bw ⟨y, t, C, z, u, D, A, x, E, rfl, Y, Z, aa, ba⟩
  refine ⟨_, rfl, ?_⟩
  exact W_nil (oE (.agg #[.slice y d.Memory.length t, .slice z d.Copy.length u, .slice A d.Dirty.length x]) (C ++ (D ++ E)) ⟨y, t, C, z, u, D, A, x, E, rfl, rfl, Y, Z, aa⟩ (Mem.callMid O (ba.permF (by simp))))
 intro P U
 intro v0_ hb0_
 obtain ⟨rfl, _⟩ := hb0_
 intro v2_ hb2_
 obtain ⟨y, t, C, z, u, D, A, x, E, rfl, hs2_, Y, Z, aa⟩ := hb2_
 intro ae be
 have B : Mem [] w ae [[(q, .cells ⟨[.slice p3 x1.Memory.length c4, .slice p7 x1.Copy.length c8, .slice c x1.Dirty.length b]⟩ 25 (0, 0))], aw, ax, ay, az, a0, a3, [(J, .cells ⟨[.slice m a.Memory.length g, .slice n a.Copy.length k, .slice o a.Dirty.length l]⟩ 28 (0, 0))], (P 2)] := be
 rw [hs2_] at B
 replace B : Mem [] w ae [[(q, .cells ⟨[.slice p3 x1.Memory.length c4, .slice p7 x1.Copy.length c8, .slice c x1.Dirty.length b]⟩ 25 (0, 0))], aw, ax, ay, az, a0, a3, [(J, .cells ⟨[.slice m a.Memory.length g, .slice n a.Copy.length k, .slice o a.Dirty.length l]⟩ 28 (0, 0))], C, D, E] := B.permF (by simp)
 obtain ⟨bp, bo, hm⟩ := gx_bind hm
 refine wC 17 #[.agg #[.slice m a.Memory.length g, .slice n a.Copy.length k, .slice o a.Dirty.length l], .agg #[.slice y d.Memory.length t, .slice z d.Copy.length u, .slice A d.Dirty.length x]] ((c_l_eqCopying ae a m g (an.rd B 4 (by kernel_rfl)) n k (ao.rd B 5 (by kernel_rfl)) o l (ap.rd B 6 (by kernel_rfl)) d y t (Y.rd B 8 (by kernel_rfl)) z u (Z.rd B 9 (by kernel_rfl)) A x (aa.rd B 10 (by kernel_rfl)) bo).mono ?_)
 rintro e_ af ⟨rfl, bb⟩
 have aj := B.call0 bb
 refine ⟨_, rfl, ?_⟩
 refine wR 1 [(26, .bool (!bp))] af (W_nil (N_then ?_))
 rcases gx_bif hm with ⟨X, hm⟩ | ⟨X, hm⟩
 ·refine gT X (G_seq (G_region (wR 1 [(2, .bool false)] af (W_nil (N_then (G_ret (N_then_ret ?_)))))))
  obtain rfl := Option.some.inj hm
  exact N_ret [.bool false] (rC RVs_nil) (⟨rfl, aj.pk []⟩)
 refine gF X (G_skip (N_then (G_seq (G_region (wR 1 [(2, .bool true)] af (W_nil (N_then (G_ret ?_))))))))
 obtain rfl := Option.some.inj hm
 exact N_ret [.bool true] (rC RVs_nil) (⟨rfl, aj.pk []⟩)
theorem c_s_l1Own (w : World) (a : List Int) (c : Option Addr) (b : Nat) (n : rdS Gx.encI w a c b) {r : (List Int)} (hm : M.s_l1Own a = some r) :
  Calls Try.prog 61 #[.slice c a.length b] w fun e w' => ∃ (j : Option Addr) (i : Nat) (k : Seg), e = .returned (.slice j r.length i) ∧ ownS Gx.encI r j i k ∧ Mem [] w w' [k] := by
 unfold M.s_l1Own at hm
 refine cE Try.func61 ?_
 have M0 := Mem.refl [] w
 refine G_seq (G_region (wR 1 [(0, .slice c a.length b)] w (W_nil (N_then (G_seq (G_region (wL (E := Gx.encI) ([] : List Int) 0 [] 3 M0 ?_)))))))
 intro u m z y t g
 refine wR 1 [(3, .slice u ([] : List Int).length m), (4, .slice c a.length b)] y ?_
 obtain ⟨h, o, hm⟩ := gx_bind hm
 refine wA 8 [iv 0] 0 g t (n.mem0 g) o ?_
 intro f d v x q l
 refine wR 1 [(2, .slice f h.length d)] x (W_nil (N_then (G_ret ?_)))
 obtain rfl := Option.some.inj hm
 exact N_ret [.slice f h.length d] (rC RVs_nil) (⟨f, d, v, rfl, q, l.pk [0]⟩)
theorem c_s_StartCopy (w : World) (c : List Int) (t : Option Addr) (q : Nat) (al : rdS Gx.encI w c t q) {r : Copying × Bool} (hm : M.s_StartCopy c = some r) :
  Calls Try.prog 18 #[.slice t c.length q] w fun e w' => ∃ (an : Option Addr) (ai : Nat) (ar : Seg), ∃ (ao : Option Addr) (aj : Nat) (au : Seg), ∃ (ap : Option Addr) (ak : Nat) (av : Seg), e = .returned (.tuple #[.agg #[.slice an r.1.Memory.length ai, .slice ao r.1.Copy.length aj, .slice ap r.1.Dirty.length ak], .bool r.2]) ∧ ownS Gx.encI r.1.Memory an ai ar ∧ ownS Gx.encI r.1.Copy ao aj au ∧ ownS Gx.encB r.1.Dirty ap ak av ∧ Mem [] w w' [ar, au, av] := by
 unfold M.s_StartCopy at hm
 refine cE Try.func18 ?_
 have M0 := Mem.refl [] w
 refine G_seq (G_region (wN (.cells ⟨[.slice none 0 0, .slice none 0 0, .slice none 0 0]⟩ 28 (0, 0)) M0 ?_))
 intro x Z af
 refine wR 1 [(0, .slice t c.length q), (2, pB x 0)] Z (W_nil (N_then (G_seq (G_seq (G_region (wR 1 [(0, .slice t c.length q), (2, pB x 0), (6, .slice t c.length q)] Z ?_))))))
 obtain ⟨aq, bp, hm⟩ := gx_bind hm
 refine wC 60 #[.slice t c.length q] ((c_s_l19Memory Z c t q (al.mem0 af) bp).mono ?_)
 rintro e_ aw ⟨rfl, ay⟩
 have ag := af.call0 ay
 refine ⟨_, rfl, ?_⟩
 refine wR 1 [(0, .slice t c.length q), (2, pB x 0), (8, .bool (!aq))] aw (W_nil (N_then ?_))
 rcases gx_bif hm with ⟨U, hm⟩ | ⟨U, hm⟩
 ·refine gT U (G_seq (G_region (wR 1 [(2, pB x 0), (9, .agg #[.slice none 0 0, .slice none 0 0, .slice none 0 0])] aw (wS true 3 0 (.agg #[.slice none 0 0, .slice none 0 0, .slice none 0 0]) 0 [.slice none 0 0, .slice none 0 0, .slice none 0 0] ag rfl ?_))))
  intro b7 ah
  refine wR 1 [(2, pB x 0), (3, .bool false)] b7 (W_nil (N_then (G_ret (N_then_ret ?_))))
  obtain rfl := Option.some.inj hm
  exact N_ret [.agg #[.slice none 0 0, .slice none 0 0, .slice none 0 0], .bool false] (RVs_cons (RV_cell (g := true) (k := 3) (b := x) (off := 0) (cs := [.slice none 0 0, .slice none 0 0, .slice none 0 0]) (e := 28) (fr := (0, 0)) (v := .agg #[.slice none 0 0, .slice none 0 0, .slice none 0 0]) (ah.blk 0 (b := x) (o := .cells ⟨[.slice none 0 0, .slice none 0 0, .slice none 0 0]⟩ 28 (0, 0)) (by kernel_rfl)) (by kernel_rfl) (by kernel_rfl) (by kernel_rfl)) (rC RVs_nil)) (⟨none, 0, [], none, 0, [], none, 0, [], rfl, ownS_nil, ownS_nil, ownS_nil, ah.pk [100000, 100001, 100002]⟩)
 refine gF U (G_skip (N_then (G_seq ?_)))
 obtain ⟨z, bo, hm⟩ := gx_bind hm
 obtain ⟨y, bi, hm⟩ := gx_bind hm
 refine G_sub [(0, .slice t c.length q), (2, pB x 0), (8, .bool (!aq))] (by kernel_rfl) (G_dagL 8 [[], [0], [], [2], [3], [], [], []] [[], [], [], [], [], [], [], []] [[], [], [], [], [], [], [], []] [[], [], [], [], [], [], [1, 4, 5], []] [[], [], [], [], [], [], [1, 4, 5], []] [[], [], [], [], [], [], [], []] (fun _ => []) (fun i => ([fun f v s => v = (.slice t c.length q : Value) ∧ s = [], fun f v s => ∃ (m : Option Addr) (d : Nat), v = (.slice m z.length d : Value) ∧ ownS Gx.encI z m d s, fun f v s => v = (.slice t c.length q : Value) ∧ s = [], fun f v s => v = (iv (c.length : Int) : Value) ∧ s = [], fun f v s => ∃ (n : Option Addr) (l : Nat), v = (.slice n y.length l : Value) ∧ ownS Gx.encI y n l s, fun f v s => ∃ (C : Option Addr) (B : Nat), v = (.slice C ([] : List Bool).length B : Value) ∧ ownS Gx.encB ([] : List Bool) C B s, fun f v s => v = (.agg #[(atPath (f 1) []), (atPath (f 4) []), (atPath (f 5) [])] : Value) ∧ s = [], fun f v s => ∃ (u : Nat), v = (pB u 0 : Value) ∧ s = [(u, .cells ⟨[.slice none 0 0, .slice none 0 0, .slice none 0 0]⟩ 28 (0, 0))]] : List ((Nat → Value) → Value → Seg → Prop)).getD i (fun _ _ _ => False)) (fun j f v => ∃ s, (fun i => ([fun f v s => v = (.slice t c.length q : Value) ∧ s = [], fun f v s => ∃ (m : Option Addr) (d : Nat), v = (.slice m z.length d : Value) ∧ ownS Gx.encI z m d s, fun f v s => v = (.slice t c.length q : Value) ∧ s = [], fun f v s => v = (iv (c.length : Int) : Value) ∧ s = [], fun f v s => ∃ (n : Option Addr) (l : Nat), v = (.slice n y.length l : Value) ∧ ownS Gx.encI y n l s, fun f v s => ∃ (C : Option Addr) (B : Nat), v = (.slice C ([] : List Bool).length B : Value) ∧ ownS Gx.encB ([] : List Bool) C B s, fun f v s => v = (.agg #[(atPath (f 1) []), (atPath (f 4) []), (atPath (f 5) [])] : Value) ∧ s = [], fun f v s => ∃ (u : Nat), v = (pB u 0 : Value) ∧ s = [(u, .cells ⟨[.slice none 0 0, .slice none 0 0, .slice none 0 0]⟩ 28 (0, 0))]] : List ((Nat → Value) → Value → Seg → Prop)).getD i (fun _ _ _ => False)) j f v s) [] [1, 4, 5, 6, 7] [1, 4, 5, 7] (fun _ _ _ s h => ⟨s, h⟩) (by kernel_rfl) (by kernel_rfl) (ag.preNil 8) (by kernel_rfl) (by kernel_rfl) (by kernel_rfl) (by kernel_rfl) (allOb_cons ?_ (allOb_cons ?_ (allOb_cons ?_ (allOb_cons ?_ (allOb_cons ?_ (allOb_cons ?_ (allOb_cons ?_ (allOb_cons ?_ allOb_nil)))))))) ?_)
 ·intro A I
  intro R bv az
  exact wR 1 [(10, .slice t c.length q)] bv (W_nil (oE (.slice t c.length q) [] ⟨by kernel_rfl, rfl⟩ az))
 ·intro A I
  intro v0_ hb0_
  obtain ⟨rfl, _⟩ := hb0_
  intro R bw aa
  refine wC 61 #[.slice t c.length q] ((c_s_l1Own bw c t q (al.mem0 aa) bo).mono ?_)
  rintro e_ cd ⟨m, d, br, rfl, V, ax⟩
  refine ⟨_, rfl, ?_⟩
  exact W_nil (oE (.slice m z.length d) br ⟨m, d, rfl, V⟩ (Mem.callMid aa ax))
 ·intro A I
  intro R bx a0
  exact wR 1 [(12, .slice t c.length q)] bx (W_nil (oE (.slice t c.length q) [] ⟨by kernel_rfl, rfl⟩ a0))
 ·intro A I
  intro v2_ hb2_
  obtain ⟨rfl, _⟩ := hb2_
  intro R bz a3
  exact wR 1 [(13, iv (c.length : Int))] bz (W_nil (oE (iv (c.length : Int)) [] ⟨by kernel_rfl, rfl⟩ a3))
 ·intro A I
  intro v3_ hb3_
  obtain ⟨rfl, _⟩ := hb3_
  intro R ce a4
  refine W_make (E := Gx.encI) _ _ _ (c.length : Int) 8 [iv 0] (0 : Int) a4 (by kernel_rfl) rfl (by kernel_rfl) (by kernel_rfl) (by kernel_rfl) (by kernel_rfl) (by kernel_rfl) bi ?_
  intro n l bs cf W a5
  exact W_nil (oE (.slice n y.length l) bs ⟨n, l, rfl, W⟩ (Mem.mid a5))
 ·intro A I
  intro R cg a6
  refine wL (E := Gx.encB) ([] : List Bool) 0 [] 4 a6 ?_
  intro C B bt ch X a7
  exact W_nil (oE (.slice C ([] : List Bool).length B) bt ⟨C, B, rfl, X⟩ (Mem.mid a7))
 ·intro A I
  intro v1_ hb1_
  obtain ⟨_, m, d, rfl, _⟩ := hb1_
  intro v4_ hb4_
  obtain ⟨_, n, l, rfl, _⟩ := hb4_
  intro v5_ hb5_
  obtain ⟨_, C, B, rfl, _⟩ := hb5_
  intro R b0 a8
  exact wR 1 [(16, .agg #[.slice m z.length d, .slice n y.length l, .slice C ([] : List Bool).length B])] b0 (W_nil (oE (.agg #[.slice m z.length d, .slice n y.length l, .slice C ([] : List Bool).length B]) [] ⟨by kernel_rfl, rfl⟩ a8))
 ·intro A I
  intro R ci a9
  refine wN (.cells ⟨[.slice none 0 0, .slice none 0 0, .slice none 0 0]⟩ 28 (0, 0)) a9 ?_
  intro u cj ba
  exact W_nil (oE (pB u 0) [(u, .cells ⟨[.slice none 0 0, .slice none 0 0, .slice none 0 0]⟩ 28 (0, 0))] ⟨u, rfl, rfl⟩ (Mem.mid ba))
 intro A I
 intro v1_ hb1_
 obtain ⟨m, d, rfl, V⟩ := hb1_
 intro v4_ hb4_
 obtain ⟨n, l, rfl, W⟩ := hb4_
 intro v5_ hb5_
 obtain ⟨C, B, rfl, X⟩ := hb5_
 intro v6_ hb6_
 obtain ⟨hv6_, _⟩ := hb6_
 obtain rfl : v6_ = (.agg #[.slice m z.length d, .slice n y.length l, .slice C ([] : List Bool).length B] : Value) := hv6_.trans (by kernel_rfl)
 intro v7_ hb7_
 obtain ⟨u, rfl, hs7_⟩ := hb7_
 intro b1 bb
 have ab : Mem [] w b1 [[(x, .cells ⟨[.slice none 0 0, .slice none 0 0, .slice none 0 0]⟩ 28 (0, 0))], (A 1), (A 4), (A 5), (A 7)] := bb
 rw [hs7_] at ab
 refine wS true 3 0 (.agg #[.slice m z.length d, .slice n y.length l, .slice C ([] : List Bool).length B]) 4 [.slice m z.length d, .slice n y.length l, .slice C ([] : List Bool).length B] ab rfl ?_
 intro b2 bc
 refine W_nil (N_then (G_seq (G_seq (G_region (wR 1 [(0, .slice t c.length q), (2, pB x 0), (4, pB u 0), (5, iv 0)] b2 (W_nil (N_then ?_)))))))
 obtain ⟨H, bq, bj⟩ := gx_bind hm
 refine G_meet (fun a w' => ∃ (F : Option Addr), ∃ (D : Nat), ∃ (P : Seg), ownS Gx.encB H F D P ∧ Mem [] w w' [[(x, .cells ⟨[.slice none 0 0, .slice none 0 0, .slice none 0 0]⟩ 28 (0, 0))], (A 1), (A 4), [(u, .cells ⟨[.slice m z.length d, .slice n y.length l, .slice F H.length D]⟩ 28 (0, 0))], P] ∧ Sat Try.f18.ntmps [(2, pB x 0), (4, pB u 0)] a) ?_ ?_
 ·refine G_block (G_while (σ := Int × List Bool) (ρ := List Bool) (fun G a w' => ∃ (K : Option Addr), ∃ (J : Nat), ∃ (O : Seg), ownS Gx.encB G.2 K J O ∧ Mem [] w w' [[(x, .cells ⟨[.slice none 0 0, .slice none 0 0, .slice none 0 0]⟩ 28 (0, 0))], (A 1), (A 4), [(u, .cells ⟨[.slice m z.length d, .slice n y.length l, .slice K G.2.length J]⟩ 28 (0, 0))], O] ∧ Sat Try.f18.ntmps [(0, .slice t c.length q), (2, pB x 0), (4, pB u 0), (5, iv G.1)] a) bq (fun a ha => ⟨C, B, (A 5), X, bc.pk [0, 1, 2, 4, 3], ha.s⟩) ?_)
  clear hm
  intro G cl hm bn b8 Y ⟨K, J, O, am, Q, bf⟩
  refine G_use bf (G_seq (G_seq (G_region (wR 4 [(0, .slice t c.length q), (2, pB x 0), (4, pB u 0), (5, iv G.1), (20, .bool (decide (G.1 < (c.length : Int))))] Y (W_nil (N_then ?_))))))
  rcases gx_bif hm with ⟨T, hm⟩ | ⟨T, hm⟩
  ·refine gT T (G_skip (N_then (G_seq (G_block (G_region (wR 1 [(0, .slice t c.length q), (2, pB x 0), (4, pB u 0), (5, iv G.1), (23, pB u 2)] Y (wV (.slice K G.2.length J) Y (eL false 1 2 (Q.blk 3 rfl)) (wL (E := Gx.encB) [true] 1 [.bool true] 4 Q ?_))))))))
   intro cb ca cc ck bl ac
   obtain ⟨S, bh, hm⟩ := gx_bind hm
   refine wA 1 [.bool false] 4 ac am (bl.rd ac 5 (by kernel_rfl)) bh ?_
   intro N L bu b3 bm bd
   refine wR 1 [(0, .slice t c.length q), (2, pB x 0), (4, pB u 0), (5, iv G.1), (26, .slice N S.length L), (27, pB u 2)] b3 (wS false 1 2 (.slice N S.length L) 3 [.slice m z.length d, .slice n y.length l, .slice N S.length L] bd rfl ?_)
   intro b4 be
   refine W_nil (N_block (N_then (G_region (wR 3 [(0, .slice t c.length q), (2, pB x 0), (4, pB u 0), (5, iv (w64 (G.1 + 1)))] b4 (W_nil ?_)))))
   obtain rfl := Option.some.inj hm
   exact N_loop fun a ha => ⟨_, rfl, N, L, bu, bm, be.pk [0, 1, 2, 3, 4], ha.s⟩
  refine gF T (G_exit (N_then_exit (N_then_exit (N_block_eq ?_))))
  obtain rfl := Option.some.inj hm
  obtain rfl := bn _ rfl
  exact N_meet fun a ha => ⟨K, J, O, am, Q.pk [0, 1, 2, 3, 4], ha.s⟩
 intro b9 b5 ⟨F, D, P, bk, ad, bg⟩
 refine N_use bg ?_
 have hm := bj
 refine N_then (G_seq (G_region (wV (.agg #[.slice m z.length d, .slice n y.length l, .slice F H.length D]) b5 (eL true 3 0 (ad.blk 3 rfl)) (wS true 3 0 (.agg #[.slice m z.length d, .slice n y.length l, .slice F H.length D]) 0 [.slice m z.length d, .slice n y.length l, .slice F H.length D] ad rfl ?_))))
 intro b6 ae
 refine wR 1 [(2, pB x 0), (3, .bool true)] b6 (W_nil (N_then (G_ret ?_)))
 obtain rfl := Option.some.inj hm
 exact N_ret [.agg #[.slice m z.length d, .slice n y.length l, .slice F H.length D], .bool true] (RVs_cons (RV_cell (g := true) (k := 3) (b := x) (off := 0) (cs := [.slice m z.length d, .slice n y.length l, .slice F H.length D]) (e := 28) (fr := (0, 0)) (v := .agg #[.slice m z.length d, .slice n y.length l, .slice F H.length D]) (ae.blk 0 (b := x) (o := .cells ⟨[.slice m z.length d, .slice n y.length l, .slice F H.length D]⟩ 28 (0, 0)) (by kernel_rfl)) (by kernel_rfl) (by kernel_rfl) (by kernel_rfl)) (rC RVs_nil)) (⟨m, d, (A 1), n, l, (A 4), F, D, P, rfl, V, W, bk, ae.pk [1, 2, 4]⟩)
theorem c_i_copyInts (w : World) (a : List Int) (c : Option Addr) (b : Nat) (n : rdS Gx.encI w a c b) {r : (List Int)} (hm : M.i_copyInts a = some r) :
  Calls Try.prog 62 #[.slice c a.length b] w fun e w' => ∃ (j : Option Addr) (i : Nat) (k : Seg), e = .returned (.slice j r.length i) ∧ ownS Gx.encI r j i k ∧ Mem [] w w' [k] := by
 unfold M.i_copyInts at hm
 refine cE Try.func62 ?_
 have M0 := Mem.refl [] w
 refine G_seq (G_region (wR 1 [(0, .slice c a.length b)] w (W_nil (N_then (G_seq (G_region (wL (E := Gx.encI) ([] : List Int) 0 [] 3 M0 ?_)))))))
 intro u m z x q g
 refine wR 1 [(3, .slice u ([] : List Int).length m), (4, .slice c a.length b)] x ?_
 obtain ⟨h, o, hm⟩ := gx_bind hm
 refine wA 8 [iv 0] 0 g q (n.mem0 g) o ?_
 intro f d v y t l
 refine wR 1 [(2, .slice f h.length d)] y (W_nil (N_then (G_ret ?_)))
 obtain rfl := Option.some.inj hm
 exact N_ret [.slice f h.length d] (rC RVs_nil) (⟨f, d, v, rfl, t, l.pk [0]⟩)
theorem c_i_StartCopy (w : World) (c : List Int) (A : Option Addr) (y : Nat) (al : rdS Gx.encI w c A y) {r : Copying × Bool} (hm : M.i_StartCopy c = some r) :
  Calls Try.prog 20 #[.slice A c.length y] w fun e w' => ∃ (an : Option Addr) (ai : Nat) (ar : Seg), ∃ (ao : Option Addr) (aj : Nat) (au : Seg), ∃ (ap : Option Addr) (ak : Nat) (av : Seg), e = .returned (.tuple #[.agg #[.slice an r.1.Memory.length ai, .slice ao r.1.Copy.length aj, .slice ap r.1.Dirty.length ak], .bool r.2]) ∧ ownS Gx.encI r.1.Memory an ai ar ∧ ownS Gx.encI r.1.Copy ao aj au ∧ ownS Gx.encB r.1.Dirty ap ak av ∧ Mem [] w w' [ar, au, av] := by
 unfold M.i_StartCopy at hm
 refine cE Try.func20 ?_
 have M0 := Mem.refl [] w
 refine G_seq (G_region (wN (.cells ⟨[.slice none 0 0, .slice none 0 0, .slice none 0 0]⟩ 28 (0, 0)) M0 ?_))
 intro q Y aa
 refine wR 1 [(0, .slice A c.length y), (2, pB q 0)] Y (W_nil (N_then (G_seq (G_seq (G_region (wR 1 [(0, .slice A c.length y), (2, pB q 0), (5, .slice A c.length y)] Y ?_))))))
 obtain ⟨aq, bo, hm⟩ := gx_bind hm
 refine wC 58 #[.slice A c.length y] ((c_i_isMemory Y c A y (al.mem0 aa) bo).mono ?_)
 rintro e_ aw ⟨rfl, ax⟩
 have ab := aa.call0 ax
 refine ⟨_, rfl, ?_⟩
 refine wR 1 [(0, .slice A c.length y), (2, pB q 0), (7, .bool (!aq))] aw (W_nil (N_then ?_))
 rcases gx_bif hm with ⟨T, hm⟩ | ⟨T, hm⟩
 ·refine gT T (G_seq (G_region (wR 1 [(2, pB q 0), (8, .agg #[.slice none 0 0, .slice none 0 0, .slice none 0 0])] aw (wS true 3 0 (.agg #[.slice none 0 0, .slice none 0 0, .slice none 0 0]) 0 [.slice none 0 0, .slice none 0 0, .slice none 0 0] ab rfl ?_))))
  intro bv ac
  refine wR 1 [(2, pB q 0), (3, .bool false)] bv (W_nil (N_then (G_ret (N_then_ret ?_))))
  obtain rfl := Option.some.inj hm
  exact N_ret [.agg #[.slice none 0 0, .slice none 0 0, .slice none 0 0], .bool false] (RVs_cons (RV_cell (g := true) (k := 3) (b := q) (off := 0) (cs := [.slice none 0 0, .slice none 0 0, .slice none 0 0]) (e := 28) (fr := (0, 0)) (v := .agg #[.slice none 0 0, .slice none 0 0, .slice none 0 0]) (ac.blk 0 (b := q) (o := .cells ⟨[.slice none 0 0, .slice none 0 0, .slice none 0 0]⟩ 28 (0, 0)) (by kernel_rfl)) (by kernel_rfl) (by kernel_rfl) (by kernel_rfl)) (rC RVs_nil)) (⟨none, 0, [], none, 0, [], none, 0, [], rfl, ownS_nil, ownS_nil, ownS_nil, ac.pk [100000, 100001, 100002]⟩)
 refine gF T (G_skip (N_then (G_seq ?_)))
 obtain ⟨x, bp, hm⟩ := gx_bind hm
 obtain ⟨u, bi, hm⟩ := gx_bind hm
 refine G_sub [(0, .slice A c.length y), (2, pB q 0), (7, .bool (!aq))] (by kernel_rfl) (G_dagL 8 [[], [0], [], [2], [3], [], [], []] [[], [], [], [], [], [], [], []] [[], [], [], [], [], [], [], []] [[], [], [], [], [], [], [1, 4, 5], []] [[], [], [], [], [], [], [1, 4, 5], []] [[], [], [], [], [], [], [], []] (fun _ => []) (fun i => ([fun f v s => v = (.slice A c.length y : Value) ∧ s = [], fun f v s => ∃ (m : Option Addr) (d : Nat), v = (.slice m x.length d : Value) ∧ ownS Gx.encI x m d s, fun f v s => v = (.slice A c.length y : Value) ∧ s = [], fun f v s => v = (iv (c.length : Int) : Value) ∧ s = [], fun f v s => ∃ (n : Option Addr) (l : Nat), v = (.slice n u.length l : Value) ∧ ownS Gx.encI u n l s, fun f v s => ∃ (C : Option Addr) (B : Nat), v = (.slice C ([] : List Bool).length B : Value) ∧ ownS Gx.encB ([] : List Bool) C B s, fun f v s => v = (.agg #[(atPath (f 1) []), (atPath (f 4) []), (atPath (f 5) [])] : Value) ∧ s = [], fun f v s => ∃ (t : Nat), v = (pB t 0 : Value) ∧ s = [(t, .cells ⟨[.slice none 0 0, .slice none 0 0, .slice none 0 0]⟩ 28 (0, 0))]] : List ((Nat → Value) → Value → Seg → Prop)).getD i (fun _ _ _ => False)) (fun j f v => ∃ s, (fun i => ([fun f v s => v = (.slice A c.length y : Value) ∧ s = [], fun f v s => ∃ (m : Option Addr) (d : Nat), v = (.slice m x.length d : Value) ∧ ownS Gx.encI x m d s, fun f v s => v = (.slice A c.length y : Value) ∧ s = [], fun f v s => v = (iv (c.length : Int) : Value) ∧ s = [], fun f v s => ∃ (n : Option Addr) (l : Nat), v = (.slice n u.length l : Value) ∧ ownS Gx.encI u n l s, fun f v s => ∃ (C : Option Addr) (B : Nat), v = (.slice C ([] : List Bool).length B : Value) ∧ ownS Gx.encB ([] : List Bool) C B s, fun f v s => v = (.agg #[(atPath (f 1) []), (atPath (f 4) []), (atPath (f 5) [])] : Value) ∧ s = [], fun f v s => ∃ (t : Nat), v = (pB t 0 : Value) ∧ s = [(t, .cells ⟨[.slice none 0 0, .slice none 0 0, .slice none 0 0]⟩ 28 (0, 0))]] : List ((Nat → Value) → Value → Seg → Prop)).getD i (fun _ _ _ => False)) j f v s) [] [1, 4, 5, 6, 7] [1, 4, 5, 7] (fun _ _ _ s h => ⟨s, h⟩) (by kernel_rfl) (by kernel_rfl) (ab.preNil 8) (by kernel_rfl) (by kernel_rfl) (by kernel_rfl) (by kernel_rfl) (allOb_cons ?_ (allOb_cons ?_ (allOb_cons ?_ (allOb_cons ?_ (allOb_cons ?_ (allOb_cons ?_ (allOb_cons ?_ (allOb_cons ?_ allOb_nil)))))))) ?_)
 ·intro z I
  intro R bw az
  exact wR 1 [(9, .slice A c.length y)] bw (W_nil (oE (.slice A c.length y) [] ⟨by kernel_rfl, rfl⟩ az))
 ·intro z I
  intro v0_ hb0_
  obtain ⟨rfl, _⟩ := hb0_
  intro R bx ad
  refine wC 62 #[.slice A c.length y] ((c_i_copyInts bx c A y (al.mem0 ad) bp).mono ?_)
  rintro e_ cd ⟨m, d, br, rfl, V, ay⟩
  refine ⟨_, rfl, ?_⟩
  exact W_nil (oE (.slice m x.length d) br ⟨m, d, rfl, V⟩ (Mem.callMid ad ay))
 ·intro z I
  intro R bz a0
  exact wR 1 [(11, .slice A c.length y)] bz (W_nil (oE (.slice A c.length y) [] ⟨by kernel_rfl, rfl⟩ a0))
 ·intro z I
  intro v2_ hb2_
  obtain ⟨rfl, _⟩ := hb2_
  intro R b0 a3
  exact wR 1 [(12, iv (c.length : Int))] b0 (W_nil (oE (iv (c.length : Int)) [] ⟨by kernel_rfl, rfl⟩ a3))
 ·intro z I
  intro v3_ hb3_
  obtain ⟨rfl, _⟩ := hb3_
  intro R ce a4
  refine W_make (E := Gx.encI) _ _ _ (c.length : Int) 8 [iv 0] (0 : Int) a4 (by kernel_rfl) rfl (by kernel_rfl) (by kernel_rfl) (by kernel_rfl) (by kernel_rfl) (by kernel_rfl) bi ?_
  intro n l bs cf W a5
  exact W_nil (oE (.slice n u.length l) bs ⟨n, l, rfl, W⟩ (Mem.mid a5))
 ·intro z I
  intro R cg a6
  refine wL (E := Gx.encB) ([] : List Bool) 0 [] 4 a6 ?_
  intro C B bt ch X a7
  exact W_nil (oE (.slice C ([] : List Bool).length B) bt ⟨C, B, rfl, X⟩ (Mem.mid a7))
 ·intro z I
  intro v1_ hb1_
  obtain ⟨_, m, d, rfl, _⟩ := hb1_
  intro v4_ hb4_
  obtain ⟨_, n, l, rfl, _⟩ := hb4_
  intro v5_ hb5_
  obtain ⟨_, C, B, rfl, _⟩ := hb5_
  intro R b1 a8
  exact wR 1 [(15, .agg #[.slice m x.length d, .slice n u.length l, .slice C ([] : List Bool).length B])] b1 (W_nil (oE (.agg #[.slice m x.length d, .slice n u.length l, .slice C ([] : List Bool).length B]) [] ⟨by kernel_rfl, rfl⟩ a8))
 ·intro z I
  intro R ci a9
  refine wN (.cells ⟨[.slice none 0 0, .slice none 0 0, .slice none 0 0]⟩ 28 (0, 0)) a9 ?_
  intro t cj ba
  exact W_nil (oE (pB t 0) [(t, .cells ⟨[.slice none 0 0, .slice none 0 0, .slice none 0 0]⟩ 28 (0, 0))] ⟨t, rfl, rfl⟩ (Mem.mid ba))
 intro z I
 intro v1_ hb1_
 obtain ⟨m, d, rfl, V⟩ := hb1_
 intro v4_ hb4_
 obtain ⟨n, l, rfl, W⟩ := hb4_
 intro v5_ hb5_
 obtain ⟨C, B, rfl, X⟩ := hb5_
 intro v6_ hb6_
 obtain ⟨hv6_, _⟩ := hb6_
 obtain rfl : v6_ = (.agg #[.slice m x.length d, .slice n u.length l, .slice C ([] : List Bool).length B] : Value) := hv6_.trans (by kernel_rfl)
 intro v7_ hb7_
 obtain ⟨t, rfl, hs7_⟩ := hb7_
 intro b2 bb
 have ae : Mem [] w b2 [[(q, .cells ⟨[.slice none 0 0, .slice none 0 0, .slice none 0 0]⟩ 28 (0, 0))], (z 1), (z 4), (z 5), (z 7)] := bb
 rw [hs7_] at ae
 refine wS true 3 0 (.agg #[.slice m x.length d, .slice n u.length l, .slice C ([] : List Bool).length B]) 4 [.slice m x.length d, .slice n u.length l, .slice C ([] : List Bool).length B] ae rfl ?_
 intro b3 bc
 refine W_nil (N_then (G_seq (G_seq (G_region (wR 3 [(2, pB q 0), (4, pB t 0), (17, iv (c.length : Int)), (18, iv 0)] b3 (W_nil (N_then ?_)))))))
 obtain ⟨H, bq, bj⟩ := gx_bind hm
 refine G_meet (fun a w' => ∃ (F : Option Addr), ∃ (D : Nat), ∃ (P : Seg), ownS Gx.encB H F D P ∧ Mem [] w w' [[(q, .cells ⟨[.slice none 0 0, .slice none 0 0, .slice none 0 0]⟩ 28 (0, 0))], (z 1), (z 4), [(t, .cells ⟨[.slice m x.length d, .slice n u.length l, .slice F H.length D]⟩ 28 (0, 0))], P] ∧ Sat Try.f20.ntmps [(2, pB q 0), (4, pB t 0)] a) ?_ ?_
 ·refine G_block (G_while (σ := Int × List Bool) (ρ := List Bool) (fun G a w' => ∃ (K : Option Addr), ∃ (J : Nat), ∃ (O : Seg), ownS Gx.encB G.2 K J O ∧ Mem [] w w' [[(q, .cells ⟨[.slice none 0 0, .slice none 0 0, .slice none 0 0]⟩ 28 (0, 0))], (z 1), (z 4), [(t, .cells ⟨[.slice m x.length d, .slice n u.length l, .slice K G.2.length J]⟩ 28 (0, 0))], O] ∧ Sat Try.f20.ntmps [(2, pB q 0), (4, pB t 0), (17, iv (c.length : Int)), (18, iv G.1)] a) bq (fun a ha => ⟨C, B, (z 5), X, bc.pk [0, 1, 2, 4, 3], ha.s⟩) ?_)
  clear hm
  intro G cl hm bn b8 Z ⟨K, J, O, am, Q, bf⟩
  refine G_use bf (G_seq (G_region (wR 1 [(2, pB q 0), (4, pB t 0), (17, iv (c.length : Int)), (18, iv G.1), (19, .bool (decide (G.1 < (c.length : Int))))] Z (W_nil (N_then (G_seq ?_))))))
  rcases gx_bif hm with ⟨U, hm⟩ | ⟨U, hm⟩
  ·refine gT U (G_skip (N_then (G_seq (G_block (G_region (wR 1 [(2, pB q 0), (4, pB t 0), (17, iv (c.length : Int)), (18, iv G.1), (20, pB t 2)] Z (wV (.slice K G.2.length J) Z (eL false 1 2 (Q.blk 3 rfl)) (wL (E := Gx.encB) [true] 1 [.bool true] 4 Q ?_))))))))
   intro cb ca cc ck bl af
   obtain ⟨S, bh, hm⟩ := gx_bind hm
   refine wA 1 [.bool false] 4 af am (bl.rd af 5 (by kernel_rfl)) bh ?_
   intro N L bu b4 bm bd
   refine wR 1 [(2, pB q 0), (4, pB t 0), (17, iv (c.length : Int)), (18, iv G.1), (23, .slice N S.length L), (24, pB t 2)] b4 (wS false 1 2 (.slice N S.length L) 3 [.slice m x.length d, .slice n u.length l, .slice N S.length L] bd rfl ?_)
   intro b5 be
   refine W_nil (N_block (N_then (G_region (wR 2 [(2, pB q 0), (4, pB t 0), (17, iv (c.length : Int)), (18, iv (w64 (G.1 + 1)))] b5 (W_nil ?_)))))
   obtain rfl := Option.some.inj hm
   exact N_loop fun a ha => ⟨_, rfl, N, L, bu, bm, be.pk [0, 1, 2, 3, 4], ha.s⟩
  refine gF U (G_exit (N_then_exit (N_then_exit (N_block_eq ?_))))
  obtain rfl := Option.some.inj hm
  obtain rfl := bn _ rfl
  exact N_meet fun a ha => ⟨K, J, O, am, Q.pk [0, 1, 2, 3, 4], ha.s⟩
 intro b9 b6 ⟨F, D, P, bk, ag, bg⟩
 refine N_use bg ?_
 have hm := bj
 refine N_then (G_seq (G_region (wV (.agg #[.slice m x.length d, .slice n u.length l, .slice F H.length D]) b6 (eL true 3 0 (ag.blk 3 rfl)) (wS true 3 0 (.agg #[.slice m x.length d, .slice n u.length l, .slice F H.length D]) 0 [.slice m x.length d, .slice n u.length l, .slice F H.length D] ag rfl ?_))))
 intro b7 ah
 refine wR 1 [(2, pB q 0), (3, .bool true)] b7 (W_nil (N_then (G_ret ?_)))
 obtain rfl := Option.some.inj hm
 exact N_ret [.agg #[.slice m x.length d, .slice n u.length l, .slice F H.length D], .bool true] (RVs_cons (RV_cell (g := true) (k := 3) (b := q) (off := 0) (cs := [.slice m x.length d, .slice n u.length l, .slice F H.length D]) (e := 28) (fr := (0, 0)) (v := .agg #[.slice m x.length d, .slice n u.length l, .slice F H.length D]) (ah.blk 0 (b := q) (o := .cells ⟨[.slice m x.length d, .slice n u.length l, .slice F H.length D]⟩ 28 (0, 0)) (by kernel_rfl)) (by kernel_rfl) (by kernel_rfl) (by kernel_rfl)) (rC RVs_nil)) (⟨m, d, (z 1), n, l, (z 4), F, D, P, rfl, V, W, bk, ah.pk [1, 2, 4]⟩)
theorem c_l_markIntS (w : World) (g : List Int) (c : Option Addr) (d : Nat) (f : Seg) (E : ownS Gx.encI g c d f) (k : Int) (hA : ∀ q ∈ List.flatten [f], w.heap[q.1]? = some q.2) (hN : (idsOf [f]).Nodup) {r : Int × (List Int)} (hm : M.l_markIntS g k = some r) :
  Calls Try.prog 22 #[.slice c g.length d, iv k] w fun e w' => ∃ (v : Seg), e = .returned (iv r.1) ∧ ownS Gx.encI r.2 c d v ∧ r.2.length = g.length ∧ Mem (idsOf [f]) w w' [v] := by
 unfold M.l_markIntS at hm
 refine cE Try.func22 ?_
 have M0 := Mem.start' w [f] hA hN
 refine G_seq (G_region (wR 1 [(0, .slice c g.length d), (1, iv k)] w (W_nil (N_then (G_seq (G_seq (G_region (wR 1 [(0, .slice c g.length d), (1, iv k), (5, iv 0)] w (W_nil (N_then ?_))))))))))
 obtain ⟨h, I, D⟩ := gx_bind hm
 refine G_meet (fun a w' => ∃ (j : Seg), ownS Gx.encI h.2 c d j ∧ h.2.length = g.length ∧ Mem (idsOf [f]) w w' [j] ∧ Sat Try.f22.ntmps [(1, iv h.1)] a) ?_ ?_
 ·refine G_block (G_while (σ := Int × Int × List Int) (ρ := Int × List Int) (fun b a w' => ∃ (i : Seg), ownS Gx.encI b.2.2 c d i ∧ b.2.2.length = g.length ∧ Mem (idsOf [f]) w w' [i] ∧ Sat Try.f22.ntmps [(0, .slice c b.2.2.length d), (1, iv b.1), (5, iv b.2.1)] a) I (fun a ha => ⟨f, E, rfl, M0.pk [0], ha.s⟩) ?_)
  clear hm
  intro b P hm H N o ⟨i, n, t, l, A⟩
  refine G_use A (G_seq (G_seq (G_region (wR 4 [(0, .slice c b.2.2.length d), (1, iv b.1), (5, iv b.2.1), (9, .bool (decide (b.2.1 < (b.2.2.length : Int))))] o (W_nil (N_then ?_))))))
  rcases gx_bif hm with ⟨m, hm⟩ | ⟨m, hm⟩
  ·refine gT m (G_skip (N_then (G_seq (G_block (G_seq (G_region (wR 3 [(0, .slice c b.2.2.length d), (1, iv b.1), (5, iv b.2.1), (12, .slice c b.2.2.length d), (13, iv b.2.1), (14, iv b.1)] o ?_)))))))
   obtain ⟨L, u, hm⟩ := gx_bind hm
   refine wV (elemP c (b.2.1.toNat * 1)) o (eI (n.rd l 0 (by kernel_rfl)) rfl u) (wE false 1 b.2.1.toNat 0 (b.2.1.toNat * 1) L b.1 (iv b.1) 0 l n (gxIdx_spec u).2 ?_)
   intro x J G y
   refine wX 0 (.slice c b.2.2.length d) (.slice c (b.2.2.set b.2.1.toNat b.1).length d) (by rw [@List.length_set _ b.2.2 b.2.1.toNat b.1]) (wX 12 (.slice c b.2.2.length d) (.slice c (b.2.2.set b.2.1.toNat b.1).length d) (by rw [@List.length_set _ b.2.2 b.2.1.toNat b.1]) (W_nil (N_then (G_region (wR 3 [(0, .slice c (b.2.2.set b.2.1.toNat b.1).length d), (1, iv (w64 (b.1 + 1))), (5, iv b.2.1)] x (W_nil (N_block (N_then (G_region (wR 3 [(0, .slice c (b.2.2.set b.2.1.toNat b.1).length d), (1, iv (w64 (b.1 + 1))), (5, iv (w64 (b.2.1 + 1)))] x (W_nil ?_)))))))))))
   obtain rfl := Option.some.inj hm
   exact N_loop fun a ha => ⟨_, rfl, J, G, (List.length_set.trans t), y.pk [0], ha.s⟩
  refine gF m (G_exit (N_then_exit (N_then_exit (N_block_eq ?_))))
  obtain rfl := Option.some.inj hm
  obtain rfl := H _ rfl
  exact N_meet fun a ha => ⟨i, n, t, l.pk [0], ha.s⟩
 intro O K ⟨j, F, C, z, B⟩
 refine N_use B ?_
 have hm := D
 refine N_then (G_seq (G_region (wR 2 [(4, iv h.1)] K (W_nil (N_then (G_ret ?_))))))
 obtain rfl := Option.some.inj hm
 exact N_ret [iv h.1] (rC RVs_nil) (⟨j, rfl, F, C, z.pk [0]⟩)
theorem c_l_markBoolS (w : World) (g : List Bool) (c : Option Addr) (d : Nat) (f : Seg) (E : ownS Gx.encB g c d f) (k : Int) (hA : ∀ q ∈ List.flatten [f], w.heap[q.1]? = some q.2) (hN : (idsOf [f]).Nodup) {r : Int × (List Bool)} (hm : M.l_markBoolS g k = some r) :
  Calls Try.prog 63 #[.slice c g.length d, iv k] w fun e w' => ∃ (v : Seg), e = .returned (iv r.1) ∧ ownS Gx.encB r.2 c d v ∧ r.2.length = g.length ∧ Mem (idsOf [f]) w w' [v] := by
 unfold M.l_markBoolS at hm
 refine cE Try.func63 ?_
 have M0 := Mem.start' w [f] hA hN
 refine G_seq (G_region (wR 1 [(0, .slice c g.length d), (1, iv k)] w (W_nil (N_then (G_seq (G_seq (G_region (wR 1 [(0, .slice c g.length d), (1, iv k), (5, iv 0)] w (W_nil (N_then ?_))))))))))
 obtain ⟨h, I, D⟩ := gx_bind hm
 refine G_meet (fun a w' => ∃ (j : Seg), ownS Gx.encB h.2 c d j ∧ h.2.length = g.length ∧ Mem (idsOf [f]) w w' [j] ∧ Sat Try.f63.ntmps [(1, iv h.1)] a) ?_ ?_
 ·refine G_block (G_while (σ := Int × Int × List Bool) (ρ := Int × List Bool) (fun b a w' => ∃ (i : Seg), ownS Gx.encB b.2.2 c d i ∧ b.2.2.length = g.length ∧ Mem (idsOf [f]) w w' [i] ∧ Sat Try.f63.ntmps [(0, .slice c b.2.2.length d), (1, iv b.1), (5, iv b.2.1)] a) I (fun a ha => ⟨f, E, rfl, M0.pk [0], ha.s⟩) ?_)
  clear hm
  intro b P hm H N o ⟨i, n, t, l, A⟩
  refine G_use A (G_seq (G_seq (G_region (wR 4 [(0, .slice c b.2.2.length d), (1, iv b.1), (5, iv b.2.1), (9, .bool (decide (b.2.1 < (b.2.2.length : Int))))] o (W_nil (N_then ?_))))))
  rcases gx_bif hm with ⟨m, hm⟩ | ⟨m, hm⟩
  ·refine gT m (G_skip (N_then (G_seq (G_block (G_seq (G_region (wR 5 [(0, .slice c b.2.2.length d), (1, iv b.1), (5, iv b.2.1), (12, .slice c b.2.2.length d), (13, iv b.2.1), (16, .bool ((b.1.tmod 3) == 0))] o ?_)))))))
   obtain ⟨L, u, hm⟩ := gx_bind hm
   refine wV (elemP c (b.2.1.toNat * 1)) o (eI (n.rd l 0 (by kernel_rfl)) rfl u) (wE false 1 b.2.1.toNat 0 (b.2.1.toNat * 1) L ((b.1.tmod 3) == 0) (.bool ((b.1.tmod 3) == 0)) 0 l n (gxIdx_spec u).2 ?_)
   intro x J G y
   refine wX 0 (.slice c b.2.2.length d) (.slice c (b.2.2.set b.2.1.toNat ((b.1.tmod 3) == 0)).length d) (by rw [@List.length_set _ b.2.2 b.2.1.toNat ((b.1.tmod 3) == 0)]) (wX 12 (.slice c b.2.2.length d) (.slice c (b.2.2.set b.2.1.toNat ((b.1.tmod 3) == 0)).length d) (by rw [@List.length_set _ b.2.2 b.2.1.toNat ((b.1.tmod 3) == 0)]) (W_nil (N_then (G_region (wR 3 [(0, .slice c (b.2.2.set b.2.1.toNat ((b.1.tmod 3) == 0)).length d), (1, iv (w64 (b.1 + 1))), (5, iv b.2.1)] x (W_nil (N_block (N_then (G_region (wR 3 [(0, .slice c (b.2.2.set b.2.1.toNat ((b.1.tmod 3) == 0)).length d), (1, iv (w64 (b.1 + 1))), (5, iv (w64 (b.2.1 + 1)))] x (W_nil ?_)))))))))))
   obtain rfl := Option.some.inj hm
   exact N_loop fun a ha => ⟨_, rfl, J, G, (List.length_set.trans t), y.pk [0], ha.s⟩
  refine gF m (G_exit (N_then_exit (N_then_exit (N_block_eq ?_))))
  obtain rfl := Option.some.inj hm
  obtain rfl := H _ rfl
  exact N_meet fun a ha => ⟨i, n, t, l.pk [0], ha.s⟩
 intro O K ⟨j, F, C, z, B⟩
 refine N_use B ?_
 have hm := D
 refine N_then (G_seq (G_region (wR 2 [(4, iv h.1)] K (W_nil (N_then (G_ret ?_))))))
 obtain rfl := Option.some.inj hm
 exact N_ret [iv h.1] (rC RVs_nil) (⟨j, rfl, F, C, z.pk [0]⟩)
theorem c_l_markCopying (w : World) (a : Copying) (g : Option Addr) (c : Nat) (n : Seg) (T : ownS Gx.encI a.Memory g c n) (h : Option Addr) (d : Nat) (l : Seg) (U : ownS Gx.encI a.Copy h d l) (i : Option Addr) (f : Nat) (j : Seg) (V : ownS Gx.encB a.Dirty i f j) (o : Int) (hA : ∀ q ∈ List.flatten [n, l, j], w.heap[q.1]? = some q.2) (hN : (idsOf [n, l, j]).Nodup) {r : Int × (List Int) × (List Int) × (List Bool)} (hm : M.l_markCopying a o = some r) :
  Calls Try.prog 23 #[.agg #[.slice g a.Memory.length c, .slice h a.Copy.length d, .slice i a.Dirty.length f], iv o] w fun e w' => ∃ (H : Seg), ∃ (I : Seg), ∃ (J : Seg), e = .returned (iv r.1) ∧ ownS Gx.encI r.2.1 g c H ∧ r.2.1.length = a.Memory.length ∧ ownS Gx.encI r.2.2.1 h d I ∧ r.2.2.1.length = a.Copy.length ∧ ownS Gx.encB r.2.2.2 i f J ∧ r.2.2.2.length = a.Dirty.length ∧ Mem (idsOf [n, l, j]) w w' [H, I, J] := by
 unfold M.l_markCopying at hm
 refine cE Try.func23 ?_
 have M0 := Mem.start' w [n, l, j] hA hN
 refine G_seq (G_region (wN (.cells ⟨[.slice g a.Memory.length c, .slice h a.Copy.length d, .slice i a.Dirty.length f]⟩ 28 (0, 0)) M0 ?_))
 intro b x y
 refine wR 1 [(1, iv o), (2, pB b 0)] x (W_nil (N_then (G_seq (G_region (wR 1 [(1, iv o), (2, pB b 0), (5, pB b 0)] x (wV (.slice g a.Memory.length c) x (eL false 1 0 (y.blk 3 rfl)) (wR 1 [(1, iv o), (2, pB b 0), (6, .slice g a.Memory.length c), (7, iv o)] x ?_)))))))
 obtain ⟨k, Z, hm⟩ := gx_bind hm
 refine wC 22 #[.slice g a.Memory.length c, iv o] ((c_l_markIntS x a.Memory g c n T o (y.hasPick [0]) (y.nodupPick [0] (by kernel_rfl)) Z).mono ?_)
 rintro e_ t ⟨E, rfl, W, B, L⟩
 have P := y.callF' [0] [1, 2, 3] (by kernel_rfl) L
 refine ⟨_, rfl, ?_⟩
 refine wX 6 (.slice g a.Memory.length c) (.slice g k.2.length c) (by first | rw [B] | rw [B]) ?_
 have z : Mem (idsOf [n, l, j]) w t [l, j, [(b, .cells ⟨[.slice g k.2.length c, .slice h a.Copy.length d, .slice i a.Dirty.length f]⟩ 28 (0, 0))], E] := by rw [B]; exact P
 refine wR 1 [(1, iv k.1), (2, pB b 0)] t (W_nil (N_then (G_seq (G_region (wR 1 [(1, iv k.1), (2, pB b 0), (9, pB b 1)] t (wV (.slice h a.Copy.length d) t (eL false 1 1 (z.blk 2 rfl)) (wR 1 [(1, iv k.1), (2, pB b 0), (10, .slice h a.Copy.length d), (11, iv k.1)] t ?_)))))))
 obtain ⟨m, aa, hm⟩ := gx_bind hm
 refine wC 22 #[.slice h a.Copy.length d, iv k.1] ((c_l_markIntS t a.Copy h d l U k.1 (z.hasPick [0]) (z.nodupPick [0] (by kernel_rfl)) aa).mono ?_)
 rintro e_ u ⟨F, rfl, X, C, N⟩
 have Q := z.callF' [0] [1, 2, 3] (by kernel_rfl) N
 refine ⟨_, rfl, ?_⟩
 refine wX 10 (.slice h a.Copy.length d) (.slice h m.2.length d) (by first | rw [C] | rw [C]) ?_
 have A : Mem (idsOf [n, l, j]) w u [j, [(b, .cells ⟨[.slice g k.2.length c, .slice h m.2.length d, .slice i a.Dirty.length f]⟩ 28 (0, 0))], E, F] := by rw [C]; exact Q
 refine wR 1 [(1, iv m.1), (2, pB b 0)] u (W_nil (N_then (G_seq (G_region (wR 1 [(1, iv m.1), (13, pB b 2)] u (wV (.slice i a.Dirty.length f) u (eL false 1 2 (A.blk 1 rfl)) (wR 1 [(1, iv m.1), (14, .slice i a.Dirty.length f), (15, iv m.1)] u ?_)))))))
 obtain ⟨v, ab, hm⟩ := gx_bind hm
 refine wC 63 #[.slice i a.Dirty.length f, iv m.1] ((c_l_markBoolS u a.Dirty i f j V m.1 (A.hasPick [0]) (A.nodupPick [0] (by kernel_rfl)) ab).mono ?_)
 rintro e_ G ⟨K, rfl, Y, D, O⟩
 have R := A.callF' [0] [1, 2, 3] (by kernel_rfl) O
 refine ⟨_, rfl, ?_⟩
 refine wX 14 (.slice i a.Dirty.length f) (.slice i v.2.length f) (by first | rw [D] | rw [D]) ?_
 have S : Mem (idsOf [n, l, j]) w G [[(b, .cells ⟨[.slice g k.2.length c, .slice h m.2.length d, .slice i v.2.length f]⟩ 28 (0, 0))], E, F, K] := by rw [D]; exact R
 refine wR 1 [(1, iv v.1)] G (W_nil (N_then (G_seq (G_region (wR 2 [(4, iv v.1)] G (W_nil (N_then (G_ret ?_))))))))
 obtain rfl := Option.some.inj hm
 exact N_ret [iv v.1] (rC RVs_nil) (⟨E, F, K, rfl, W, (B.trans rfl), X, (C.trans rfl), Y, (D.trans rfl), S.pk [1, 2, 3]⟩)
theorem c_l_heldIntS (w : World) (c : List Int) (d : Option Addr) (f : Nat) (m : rdS Gx.encI w c d f) (j : Int) {r : Int} (hm : M.l_heldIntS c j = some r) :
  Calls Try.prog 27 #[.slice d c.length f, iv j] w fun e w' => e = .returned (iv r) ∧ Mem [] w w' [] := by
 unfold M.l_heldIntS at hm
 refine cE Try.func27 ?_
 have M0 := Mem.refl [] w
 refine G_seq (G_region (wR 1 [(0, .slice d c.length f), (1, iv j)] w (W_nil (N_then (G_seq (G_seq (G_region (wR 1 [(0, .slice d c.length f), (1, iv j), (5, iv 0)] w (W_nil (N_then ?_))))))))))
 obtain ⟨z, y, n⟩ := gx_bind hm
 refine G_meet (fun a w' => ∃ (i : Int), z = .inl i ∧ Mem [] w w' [] ∧ Sat Try.f27.ntmps [(1, iv i)] a) ?_ ?_
 ·refine G_block (G_while (σ := Int × Int) (ρ := (Int) ⊕ (Int)) (fun b a w' => Mem [] w w' [] ∧ Sat Try.f27.ntmps [(0, .slice d c.length f), (1, iv b.1), (5, iv b.2)] a) y (fun a ha => ⟨M0.pk [], ha.s⟩) ?_)
  clear hm
  intro b D hm o B g ⟨h, v⟩
  refine G_use v (G_seq (G_seq (G_region (wR 4 [(0, .slice d c.length f), (1, iv b.1), (5, iv b.2), (9, .bool (decide (b.2 < (c.length : Int))))] g (W_nil (N_then ?_))))))
  rcases gx_bif hm with ⟨k, hm⟩ | ⟨k, hm⟩
  ·refine gT k (G_skip (N_then (G_seq (G_block (G_seq (G_seq (G_region (wR 2 [(0, .slice d c.length f), (1, iv b.1), (5, iv b.2), (12, .slice d c.length f), (13, iv b.2)] g ?_))))))))
   obtain ⟨t, q, hm⟩ := gx_bind hm
   refine wV (elemP d (b.2.toNat * 1)) g (eI (m.mem0 h) rfl q) (wV (iv t) g (eE false 1 0 (b.2.toNat * 1) (m.mem0 h) q) (wR 2 [(0, .slice d c.length f), (1, iv b.1), (5, iv b.2), (17, .bool (t != b.1))] g (W_nil (N_then ?_))))
   rcases gx_bif hm with ⟨l, hm⟩ | ⟨l, hm⟩
   ·refine gT l (G_seq (G_region (wR 1 [(4, iv (-1))] g (W_nil (N_then (G_ret (N_then_ret (N_block_ret (N_then_ret (N_then_ret ?_))))))))))
    obtain rfl := Option.some.inj hm
    obtain rfl := o _ rfl
    have hm := n; simp only [Sum.elim_inr] at hm
    refine N_block_ret (N_meet_ret (N_then_ret ?_))
    obtain rfl := Option.some.inj hm
    exact N_ret [iv (-1)] (rC RVs_nil) (⟨rfl, h.pk []⟩)
   refine gF l (G_skip (N_then (G_region (wR 3 [(0, .slice d c.length f), (1, iv (w64 (b.1 + 1))), (5, iv b.2)] g (W_nil (N_block (N_then (G_region (wR 3 [(0, .slice d c.length f), (1, iv (w64 (b.1 + 1))), (5, iv (w64 (b.2 + 1)))] g (W_nil ?_))))))))))
   obtain rfl := Option.some.inj hm
   exact N_loop fun a ha => ⟨_, rfl, h.pk [], ha.s⟩
  refine gF k (G_exit (N_then_exit (N_then_exit (N_block_eq ?_))))
  obtain rfl := Option.some.inj hm
  obtain rfl := o _ rfl
  exact N_meet fun a ha => ⟨_, rfl, h.pk [], ha.s⟩
 intro C A ⟨i, hout_, u, x⟩
 refine N_use x ?_
 subst hout_
 have hm := n; simp only [Sum.elim_inl] at hm
 refine N_then (G_seq (G_region (wR 2 [(4, iv i)] A (W_nil (N_then (G_ret ?_))))))
 obtain rfl := Option.some.inj hm
 exact N_ret [iv i] (rC RVs_nil) (⟨rfl, u.pk []⟩)
theorem c_l_heldBoolS (w : World) (c : List Bool) (d : Option Addr) (f : Nat) (m : rdS Gx.encB w c d f) (j : Int) {r : Int} (hm : M.l_heldBoolS c j = some r) :
  Calls Try.prog 64 #[.slice d c.length f, iv j] w fun e w' => e = .returned (iv r) ∧ Mem [] w w' [] := by
 unfold M.l_heldBoolS at hm
 refine cE Try.func64 ?_
 have M0 := Mem.refl [] w
 refine G_seq (G_region (wR 1 [(0, .slice d c.length f), (1, iv j)] w (W_nil (N_then (G_seq (G_seq (G_region (wR 1 [(0, .slice d c.length f), (1, iv j), (5, iv 0)] w (W_nil (N_then ?_))))))))))
 obtain ⟨z, y, n⟩ := gx_bind hm
 refine G_meet (fun a w' => ∃ (i : Int), z = .inl i ∧ Mem [] w w' [] ∧ Sat Try.f64.ntmps [(1, iv i)] a) ?_ ?_
 ·refine G_block (G_while (σ := Int × Int) (ρ := (Int) ⊕ (Int)) (fun b a w' => Mem [] w w' [] ∧ Sat Try.f64.ntmps [(0, .slice d c.length f), (1, iv b.1), (5, iv b.2)] a) y (fun a ha => ⟨M0.pk [], ha.s⟩) ?_)
  clear hm
  intro b D hm o B g ⟨h, v⟩
  refine G_use v (G_seq (G_seq (G_region (wR 4 [(0, .slice d c.length f), (1, iv b.1), (5, iv b.2), (9, .bool (decide (b.2 < (c.length : Int))))] g (W_nil (N_then ?_))))))
  rcases gx_bif hm with ⟨k, hm⟩ | ⟨k, hm⟩
  ·refine gT k (G_skip (N_then (G_seq (G_block (G_seq (G_seq (G_region (wR 2 [(0, .slice d c.length f), (1, iv b.1), (5, iv b.2), (12, .slice d c.length f), (13, iv b.2)] g ?_))))))))
   obtain ⟨t, q, hm⟩ := gx_bind hm
   refine wV (elemP d (b.2.toNat * 1)) g (eI (m.mem0 h) rfl q) (wV (.bool t) g (eE false 1 0 (b.2.toNat * 1) (m.mem0 h) q) (wR 4 [(0, .slice d c.length f), (1, iv b.1), (5, iv b.2), (19, .bool (!(t == ((b.1.tmod 3) == 0))))] g (W_nil (N_then ?_))))
   rcases gx_bif hm with ⟨l, hm⟩ | ⟨l, hm⟩
   ·refine gT l (G_seq (G_region (wR 1 [(4, iv (-1))] g (W_nil (N_then (G_ret (N_then_ret (N_block_ret (N_then_ret (N_then_ret ?_))))))))))
    obtain rfl := Option.some.inj hm
    obtain rfl := o _ rfl
    have hm := n; simp only [Sum.elim_inr] at hm
    refine N_block_ret (N_meet_ret (N_then_ret ?_))
    obtain rfl := Option.some.inj hm
    exact N_ret [iv (-1)] (rC RVs_nil) (⟨rfl, h.pk []⟩)
   refine gF l (G_skip (N_then (G_region (wR 3 [(0, .slice d c.length f), (1, iv (w64 (b.1 + 1))), (5, iv b.2)] g (W_nil (N_block (N_then (G_region (wR 3 [(0, .slice d c.length f), (1, iv (w64 (b.1 + 1))), (5, iv (w64 (b.2 + 1)))] g (W_nil ?_))))))))))
   obtain rfl := Option.some.inj hm
   exact N_loop fun a ha => ⟨_, rfl, h.pk [], ha.s⟩
  refine gF k (G_exit (N_then_exit (N_then_exit (N_block_eq ?_))))
  obtain rfl := Option.some.inj hm
  obtain rfl := o _ rfl
  exact N_meet fun a ha => ⟨_, rfl, h.pk [], ha.s⟩
 intro C A ⟨i, hout_, u, x⟩
 refine N_use x ?_
 subst hout_
 have hm := n; simp only [Sum.elim_inl] at hm
 refine N_then (G_seq (G_region (wR 2 [(4, iv i)] A (W_nil (N_then (G_ret ?_))))))
 obtain rfl := Option.some.inj hm
 exact N_ret [iv i] (rC RVs_nil) (⟨rfl, u.pk []⟩)
theorem c_l_heldCopying (w : World) (a : Copying) (j : Option Addr) (g : Nat) (F : rdS Gx.encI w a.Memory j g) (k : Option Addr) (h : Nat) (G : rdS Gx.encI w a.Copy k h) (l : Option Addr) (i : Nat) (H : rdS Gx.encB w a.Dirty l i) (f : Int) {r : Int} (hm : M.l_heldCopying a f = some r) :
  Calls Try.prog 24 #[.agg #[.slice j a.Memory.length g, .slice k a.Copy.length h, .slice l a.Dirty.length i], iv f] w fun e w' => e = .returned (iv r) ∧ Mem [] w w' [] := by
 unfold M.l_heldCopying at hm
 refine cE Try.func24 ?_
 have M0 := Mem.refl [] w
 refine G_seq (G_region (wN (.cells ⟨[.slice j a.Memory.length g, .slice k a.Copy.length h, .slice l a.Dirty.length i]⟩ 28 (0, 0)) M0 ?_))
 intro b q x
 refine wR 1 [(1, iv f), (2, pB b 0)] q (W_nil (N_then (G_seq (G_region (wR 1 [(1, iv f), (2, pB b 0), (5, pB b 0)] q (wV (.slice j a.Memory.length g) q (eL false 1 0 (x.blk 0 rfl)) (wR 1 [(1, iv f), (2, pB b 0), (6, .slice j a.Memory.length g), (7, iv f)] q ?_)))))))
 obtain ⟨c, I, hm⟩ := gx_bind hm
 refine wC 27 #[.slice j a.Memory.length g, iv f] ((c_l_heldIntS q a.Memory j g (F.mem0 x) f I).mono ?_)
 rintro e_ m ⟨rfl, C⟩
 have t := x.call0 C
 refine ⟨_, rfl, ?_⟩
 refine wR 1 [(1, iv c), (2, pB b 0)] m (W_nil (N_then (G_seq (G_seq (G_region (wR 2 [(1, iv c), (2, pB b 0), (10, .bool (decide (c < 0)))] m (W_nil (N_then ?_))))))))
 rcases gx_bif hm with ⟨y, hm⟩ | ⟨y, hm⟩
 ·refine gT y (G_seq (G_region (wR 1 [(4, iv (-1))] m (W_nil (N_then (G_ret (N_then_ret ?_)))))))
  obtain rfl := Option.some.inj hm
  exact N_ret [iv (-1)] (rC RVs_nil) (⟨rfl, t.pk []⟩)
 refine gF y (G_skip (N_then (G_seq (G_region (wR 1 [(1, iv c), (2, pB b 0), (11, pB b 1)] m (wV (.slice k a.Copy.length h) m (eL false 1 1 (t.blk 0 rfl)) (wR 1 [(1, iv c), (2, pB b 0), (12, .slice k a.Copy.length h), (13, iv c)] m ?_)))))))
 obtain ⟨d, J, hm⟩ := gx_bind hm
 refine wC 27 #[.slice k a.Copy.length h, iv c] ((c_l_heldIntS m a.Copy k h (G.mem0 t) c J).mono ?_)
 rintro e_ n ⟨rfl, D⟩
 have u := t.call0 D
 refine ⟨_, rfl, ?_⟩
 refine wR 1 [(1, iv d), (2, pB b 0)] n (W_nil (N_then (G_seq (G_seq (G_region (wR 2 [(1, iv d), (2, pB b 0), (16, .bool (decide (d < 0)))] n (W_nil (N_then ?_))))))))
 rcases gx_bif hm with ⟨z, hm⟩ | ⟨z, hm⟩
 ·refine gT z (G_seq (G_region (wR 1 [(4, iv (-1))] n (W_nil (N_then (G_ret (N_then_ret ?_)))))))
  obtain rfl := Option.some.inj hm
  exact N_ret [iv (-1)] (rC RVs_nil) (⟨rfl, u.pk []⟩)
 refine gF z (G_skip (N_then (G_seq (G_region (wR 1 [(1, iv d), (17, pB b 2)] n (wV (.slice l a.Dirty.length i) n (eL false 1 2 (u.blk 0 rfl)) (wR 1 [(1, iv d), (18, .slice l a.Dirty.length i), (19, iv d)] n ?_)))))))
 obtain ⟨o, K, hm⟩ := gx_bind hm
 refine wC 64 #[.slice l a.Dirty.length i, iv d] ((c_l_heldBoolS n a.Dirty l i (H.mem0 u) d K).mono ?_)
 rintro e_ v ⟨rfl, E⟩
 have B := u.call0 E
 refine ⟨_, rfl, ?_⟩
 refine wR 1 [(1, iv o)] v (W_nil (N_then (G_seq (G_seq (G_region (wR 2 [(1, iv o), (22, .bool (decide (o < 0)))] v (W_nil (N_then ?_))))))))
 rcases gx_bif hm with ⟨A, hm⟩ | ⟨A, hm⟩
 ·refine gT A (G_seq (G_region (wR 1 [(4, iv (-1))] v (W_nil (N_then (G_ret (N_then_ret ?_)))))))
  obtain rfl := Option.some.inj hm
  exact N_ret [iv (-1)] (rC RVs_nil) (⟨rfl, B.pk []⟩)
 refine gF A (G_skip (N_then (G_seq (G_region (wR 2 [(4, iv o)] v (W_nil (N_then (G_ret ?_))))))))
 obtain rfl := Option.some.inj hm
 exact N_ret [iv o] (rC RVs_nil) (⟨rfl, B.pk []⟩)
end Go.Proofs.Ytjbblcdajdpfkaa
