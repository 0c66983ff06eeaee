/- The walks, printed by program: whenever the model gives r, the call returns r. Part 1. -/
import Derived.Test.YtfcebglkdfadcaaM
import Derived.Test.YtfcebglkdfadcaaGxZ
import Derived.Test.YtfcebglkdfadcaaProg
import Derived.Test.YtfcebglkdfadcaaSh
set_option linter.unusedVariables false
set_option maxRecDepth 100000
set_option maxHeartbeats 4000000
namespace Go.Proofs.Ytfcebglkdfadcaa
open Go.Gx
theorem c_l_szEvent (w : World) (x6 : Event) (x7 : Int) {r : Int} (hm : M.l_szEvent x6 x7 = some r) :
  Calls Try.prog 13 #[.agg #[iv x6.Tick, iv x6.Guest, .string x6.Kind, iv x6.Value], iv x7] w fun e w' => e = .returned (iv r) ∧ Mem [] w w' [] := by
 unfold M.l_szEvent at hm
 refine cE Try.func13 ?_
 have M0 := Mem.refl [] w
 refine G_seq (G_region (wN (.cells ⟨[iv x6.Tick, iv x6.Guest, .string x6.Kind, iv x6.Value]⟩ 23 (0, 0)) M0 ?_))
 intro b9 a b
 refine wR 1 [(1, iv x7), (2, pB b9 0)] a (W_nil (N_then (G_seq (G_region (wR 2 [(1, iv x7), (5, iv x7), (6, pB b9 2)] a (wV (.string x6.Kind) a (eL false 1 2 (b.blk 0 rfl)) (wR 3 [(1, iv (w64 (x7 - (x6.Kind.size : Int))))] a (W_nil (N_then (G_seq (G_seq (G_region (wR 2 [(1, iv (w64 (x7 - (x6.Kind.size : Int)))), (11, .bool (decide ((w64 (x7 - (x6.Kind.size : Int))) < 0)))] a (W_nil (N_then ?_)))))))))))))))
 rcases gx_bif hm with ⟨c, hm⟩ | ⟨c, hm⟩
 ·refine gT c (G_seq (G_region (wR 1 [(4, iv (-1))] a (W_nil (N_then (G_ret (N_then_ret ?_)))))))
  obtain rfl := Option.some.inj hm
  exact N_ret [iv (-1)] (rC RVs_nil) (⟨rfl, b.pk []⟩)
 refine gF c (G_skip (N_then (G_seq (G_region (wR 2 [(4, iv (w64 (x7 - (x6.Kind.size : Int))))] a (W_nil (N_then (G_ret ?_))))))))
 obtain rfl := Option.some.inj hm
 exact N_ret [iv (w64 (x7 - (x6.Kind.size : Int)))] (rC RVs_nil) (⟨rfl, b.pk []⟩)
theorem c_l_toEvent (w : World) (a : Event) {r : Event} (hm : M.l_toEvent a = some r) :
  Calls Try.prog 15 #[.agg #[iv a.Tick, iv a.Guest, .string a.Kind, iv a.Value]] w fun e w' => e = .returned (.agg #[iv r.Tick, iv r.Guest, .string r.Kind, iv r.Value]) ∧ Mem [] w w' [] := by
 unfold M.l_toEvent at hm
 refine cE Try.func15 ?_
 have M0 := Mem.refl [] w
 refine G_seq (G_region (wN (.cells ⟨[iv a.Tick, iv a.Guest, .string a.Kind, iv a.Value]⟩ 23 (0, 0)) M0 ?_))
 intro d B y
 refine wN (.cells ⟨[iv 0, iv 0, .string ByteArray.empty, iv 0]⟩ 26 (0, 0)) y ?_
 intro f C z
 refine W_nil (N_then (G_seq (G_region (wN (.cells ⟨[iv 0, iv 0, .string ByteArray.empty, iv 0]⟩ 26 (0, 0)) z ?_))))
 intro c h m
 refine W_nil (N_then (G_seq (G_region (wR 1 [(1, pB d 0), (2, pB f 0), (3, pB c 0), (4, pB d 0)] h (wV (iv a.Tick) h (eL false 1 0 (m.blk 0 rfl)) (wR 1 [(1, pB d 0), (2, pB f 0), (3, pB c 0), (5, iv a.Tick), (6, pB c 0)] h (wS false 1 0 (iv a.Tick) 2 [iv a.Tick, iv 0, .string ByteArray.empty, iv 0] m rfl ?_)))))))
 intro i n
 refine W_nil (N_then (G_seq (G_region (wR 1 [(1, pB d 0), (2, pB f 0), (3, pB c 0), (7, pB d 1)] i (wV (iv a.Guest) i (eL false 1 1 (n.blk 0 rfl)) (wR 1 [(1, pB d 0), (2, pB f 0), (3, pB c 0), (8, iv a.Guest), (9, pB c 1)] i (wS false 1 1 (iv a.Guest) 2 [iv a.Tick, iv a.Guest, .string ByteArray.empty, iv 0] n rfl ?_)))))))
 intro j q
 refine W_nil (N_then (G_seq (G_region (wR 1 [(1, pB d 0), (2, pB f 0), (3, pB c 0), (10, pB d 2)] j (wV (.string a.Kind) j (eL false 1 2 (q.blk 0 rfl)) (wR 1 [(1, pB d 0), (2, pB f 0), (3, pB c 0), (11, .string a.Kind), (12, pB c 2)] j (wS false 1 2 (.string a.Kind) 2 [iv a.Tick, iv a.Guest, .string a.Kind, iv 0] q rfl ?_)))))))
 intro l t
 refine W_nil (N_then (G_seq (G_region (wR 1 [(2, pB f 0), (3, pB c 0), (13, pB d 3)] l (wV (iv a.Value) l (eL false 1 3 (t.blk 0 rfl)) (wR 1 [(2, pB f 0), (3, pB c 0), (14, iv a.Value), (15, pB c 3)] l (wS false 1 3 (iv a.Value) 2 [iv a.Tick, iv a.Guest, .string a.Kind, iv a.Value] t rfl ?_)))))))
 intro A u
 refine W_nil (N_then (G_seq (G_region (wV (.agg #[iv a.Tick, iv a.Guest, .string a.Kind, iv a.Value]) A (eL true 4 0 (u.blk 2 rfl)) (wS true 4 0 (.agg #[iv a.Tick, iv a.Guest, .string a.Kind, iv a.Value]) 1 [iv a.Tick, iv a.Guest, .string a.Kind, iv a.Value] u rfl ?_)))))
 intro D x
 refine W_nil (N_then (G_ret ?_))
 obtain rfl := Option.some.inj hm
 exact N_ret [.agg #[iv a.Tick, iv a.Guest, .string a.Kind, iv a.Value]] (RVs_cons (RV_cell (g := true) (k := 4) (b := f) (off := 0) (cs := [iv a.Tick, iv a.Guest, .string a.Kind, iv a.Value]) (e := 26) (fr := (0, 0)) (v := .agg #[iv a.Tick, iv a.Guest, .string a.Kind, iv a.Value]) (x.blk 1 (b := f) (o := .cells ⟨[iv a.Tick, iv a.Guest, .string a.Kind, iv a.Value]⟩ 26 (0, 0)) (by kernel_rfl)) (by kernel_rfl) (by kernel_rfl) (by kernel_rfl)) RVs_nil) (⟨rfl, x.pk []⟩)
theorem c_s_l1In (w : World) (b : Int) (d : Int) (c : Int) {r : Bool} (hm : M.s_l1In b d c = some r) :
  Calls Try.prog 58 #[iv b, iv d, iv c] w fun e w' => e = .returned (.bool r) ∧ Mem [] w w' [] := by
 unfold M.s_l1In at hm
 refine cE Try.func58 ?_
 have M0 := Mem.refl [] w
 refine G_seq (G_region (wR 1 [(0, iv b), (1, iv d), (2, iv c)] w (W_nil (N_then (G_seq ?_)))))
 obtain ⟨g, k, j⟩ := gx_bind hm
 refine G_meet (fun a w' => Mem [] w w' [] ∧ Sat Try.f58.ntmps [(6, .bool g)] a) ?_ ?_
 ·have hm := k
  refine G_region (wR 4 [(0, iv b), (2, iv c), (10, .bool (decide (b ≥ d)))] w ?_)
  rcases gx_bif hm with ⟨f, hm⟩ | ⟨f, hm⟩
  ·refine wK 10 true f (wR 5 [(6, .bool (decide (b ≤ c)))] w (W_nil ?_))
   obtain rfl := Option.some.inj hm
   exact N_meet fun a ha => ⟨M0.pk [], ha.s⟩
  refine wK 10 false f (wR 5 [(6, .bool false)] w (W_nil ?_))
  obtain rfl := Option.some.inj hm
  exact N_meet fun a ha => ⟨M0.pk [], ha.s⟩
 intro l w64 ⟨h, i⟩
 refine N_use i ?_
 have hm := j
 refine N_then (G_ret ?_)
 obtain rfl := Option.some.inj hm
 exact N_ret [.bool g] (rC RVs_nil) (⟨rfl, h.pk []⟩)
theorem c_s_l11Tick (w : World) (a : Int) {r : Bool} (hm : M.s_l11Tick a = some r) :
  Calls Try.prog 65 #[iv a] w fun e w' => e = .returned (.bool r) ∧ Mem [] w w' [] := by
 unfold M.s_l11Tick at hm
 refine cE Try.func65 ?_
 have M0 := Mem.refl [] w
 refine G_seq (G_region (wR 1 [(0, iv a)] w (W_nil (N_then (G_seq (G_region (wR 1 [(3, iv a)] w ?_)))))))
 obtain ⟨b, f, hm⟩ := gx_bind hm
 refine wC 58 #[iv a, iv 0, iv 100000] ((c_s_l1In w a 0 100000 f).mono ?_)
 rintro e_ g ⟨rfl, c⟩
 have d := M0.call0 c
 refine ⟨_, rfl, ?_⟩
 refine wR 1 [(2, .bool b)] g (W_nil (N_then (G_ret ?_)))
 obtain rfl := Option.some.inj hm
 exact N_ret [.bool b] (rC RVs_nil) (⟨rfl, d.pk []⟩)
theorem c_s_l22Guest (w : World) (a : Int) {r : Bool} (hm : M.s_l22Guest a = some r) :
  Calls Try.prog 61 #[iv a] w fun e w' => e = .returned (.bool r) ∧ Mem [] w w' [] := by
 unfold M.s_l22Guest at hm
 refine cE Try.func61 ?_
 have M0 := Mem.refl [] w
 refine G_seq (G_region (wR 1 [(0, iv a)] w (W_nil (N_then (G_seq (G_region (wR 1 [(3, iv a)] w ?_)))))))
 obtain ⟨b, f, hm⟩ := gx_bind hm
 refine wC 58 #[iv a, iv 0, iv 4] ((c_s_l1In w a 0 4 f).mono ?_)
 rintro e_ g ⟨rfl, c⟩
 have d := M0.call0 c
 refine ⟨_, rfl, ?_⟩
 refine wR 1 [(2, .bool b)] g (W_nil (N_then (G_ret ?_)))
 obtain rfl := Option.some.inj hm
 exact N_ret [.bool b] (rC RVs_nil) (⟨rfl, d.pk []⟩)
theorem c_s_l22Kind (w : World) (b : ByteArray) {r : Bool} (hm : M.s_l22Kind b = some r) :
  Calls Try.prog 79 #[.string b] w fun e w' => e = .returned (.bool r) ∧ Mem [] w w' [] := by
 unfold M.s_l22Kind at hm
 refine cE Try.func79 ?_
 have M0 := Mem.refl [] w
 refine G_seq (G_region (wR 1 [(0, .string b)] w (W_nil (N_then (G_seq (G_seq (G_region (wR 1 [(0, .string b), (3, iv 0)] w (W_nil (N_then ?_))))))))))
 obtain ⟨J, H, m⟩ := gx_bind hm
 refine G_meet (fun a w' => ∃ (o : Unit), J = .inl o ∧ Mem [] w w' [] ∧ Sat Try.f79.ntmps [(0, .string b)] a) ?_ ?_
 ·refine G_block (G_while (σ := Int) (ρ := (Unit) ⊕ (Bool)) (fun c a w' => Mem [] w w' [] ∧ Sat Try.f79.ntmps [(0, .string b), (3, iv c)] a) H (fun a ha => ⟨M0.pk [], ha.s⟩) ?_)
  clear hm
  intro c P hm n L d ⟨f, z⟩
  refine G_use z (G_seq (G_seq (G_region (wR 4 [(0, .string b), (3, iv c), (7, .bool (decide (c < (b.size : Int))))] d (W_nil (N_then ?_))))))
  rcases gx_bif hm with ⟨g, hm⟩ | ⟨g, hm⟩
  ·refine gT g (G_skip (N_then (G_seq (G_block (G_seq ?_)))))
   obtain ⟨I, D, C⟩ := gx_bind hm
   refine G_meet (fun a w' => Mem [] w w' [] ∧ Sat Try.f79.ntmps [(0, .string b), (3, iv c), (19, .bool I)] a) ?_ ?_
   ·have hm := D
    refine G_region (wR 2 [(0, .string b), (3, iv c), (10, .string b), (11, iv c)] d ?_)
    obtain ⟨j, E, hm⟩ := gx_bind hm
    refine wV (.int .u8 j) d (E_strIdx _ _ _ b .i64 c j rfl (by kernel_rfl) (by kernel_rfl) (by kernel_rfl) E) (wR 2 [(0, .string b), (3, iv c), (14, .bool (decide (j < 97)))] d ?_)
    rcases gx_bif hm with ⟨h, hm⟩ | ⟨h, hm⟩
    ·refine wK 14 true h (wR 5 [(0, .string b), (3, iv c), (19, .bool true)] d (W_nil ?_))
     obtain rfl := Option.some.inj hm
     exact N_meet fun a ha => ⟨f.pk [], ha.s⟩
    refine wK 14 false h (wR 2 [(0, .string b), (3, iv c), (14, .bool false), (15, .string b), (16, iv c)] d ?_)
    obtain ⟨k, F, hm⟩ := gx_bind hm
    refine wV (.int .u8 k) d (E_strIdx _ _ _ b .i64 c k rfl (by kernel_rfl) (by kernel_rfl) (by kernel_rfl) F) (wR 2 [(0, .string b), (3, iv c), (19, .bool (decide (k > 122)))] d (W_nil ?_))
    obtain rfl := Option.some.inj hm
    exact N_meet fun a ha => ⟨f.pk [], ha.s⟩
   intro N t ⟨l, A⟩
   refine N_use A ?_
   have hm := C
   refine N_then ?_
   rcases gx_bif hm with ⟨i, hm⟩ | ⟨i, hm⟩
   ·refine gT i (G_seq (G_region (wR 1 [(2, .bool false)] t (W_nil (N_then (G_ret (N_block_ret (N_then_ret (N_then_ret ?_)))))))))
    obtain rfl := Option.some.inj hm
    obtain rfl := n _ rfl
    have hm := m; simp only [Sum.elim_inr] at hm
    refine N_block_ret (N_meet_ret (N_then_ret ?_))
    obtain rfl := Option.some.inj hm
    exact N_ret [.bool false] (rC RVs_nil) (⟨rfl, l.pk []⟩)
   refine gF i (G_skip (N_block (N_then (G_region (wR 3 [(0, .string b), (3, iv (w64 (c + 1)))] t (W_nil ?_))))))
   obtain rfl := Option.some.inj hm
   exact N_loop fun a ha => ⟨_, rfl, l.pk [], ha.s⟩
  refine gF g (G_exit (N_then_exit (N_then_exit (N_block_eq ?_))))
  obtain rfl := Option.some.inj hm
  obtain rfl := n _ rfl
  exact N_meet fun a ha => ⟨_, rfl, f.pk [], ha.s⟩
 intro O u ⟨o, hout_, x, B⟩
 refine N_use B ?_
 subst hout_
 have hm := m; simp only [Sum.elim_inl] at hm
 refine N_then (G_seq (G_region (wR 2 [(21, iv (b.size : Int))] u ?_)))
 obtain ⟨q, G, hm⟩ := gx_bind hm
 refine wC 58 #[iv (b.size : Int), iv 1, iv 8] ((c_s_l1In u (b.size : Int) 1 8 G).mono ?_)
 rintro e_ K ⟨rfl, v⟩
 have y := x.call0 v
 refine ⟨_, rfl, ?_⟩
 refine wR 1 [(2, .bool q)] K (W_nil (N_then (G_ret ?_)))
 obtain rfl := Option.some.inj hm
 exact N_ret [.bool q] (rC RVs_nil) (⟨rfl, y.pk []⟩)
theorem c_s_l22One (w : World) (b : Event) {r : Bool} (hm : M.s_l22One b = some r) :
  Calls Try.prog 51 #[.agg #[iv b.Tick, iv b.Guest, .string b.Kind, iv b.Value]] w fun e w' => e = .returned (.bool r) ∧ Mem [] w w' [] := by
 unfold M.s_l22One at hm
 refine cE Try.func51 ?_
 have M0 := Mem.refl [] w
 refine G_seq (G_region (wN (.cells ⟨[iv b.Tick, iv b.Guest, .string b.Kind, iv b.Value]⟩ 26 (0, 0)) M0 ?_))
 intro c h o
 refine wR 1 [(1, pB c 0)] h (W_nil (N_then (G_seq ?_)))
 obtain ⟨q, C, B⟩ := gx_bind hm
 refine G_meet (fun a w' => Mem [] w w' [] ∧ Sat Try.f51.ntmps [(2, .bool q)] a) ?_ ?_
 ·have hm := C
  refine G_region (wR 1 [(1, pB c 0), (3, pB c 0)] h (wV (iv b.Tick) h (eL false 1 0 (o.blk 0 rfl)) ?_))
  obtain ⟨H, D, hm⟩ := gx_bind hm
  refine wC 65 #[iv b.Tick] ((c_s_l11Tick h b.Tick D).mono ?_)
  rintro e_ d ⟨rfl, t⟩
  have i := o.call0 t
  refine ⟨_, rfl, ?_⟩
  refine wR 1 [(1, pB c 0), (6, .bool H)] d ?_
  rcases gx_bif hm with ⟨l, hm⟩ | ⟨l, hm⟩
  ·refine wK 6 true l (wR 1 [(1, pB c 0), (6, .bool true), (7, pB c 1)] d (wV (iv b.Guest) d (eL false 1 1 (i.blk 0 rfl)) ?_))
   obtain ⟨I, E, hm⟩ := gx_bind hm
   refine wC 61 #[iv b.Guest] ((c_s_l22Guest d b.Guest E).mono ?_)
   rintro e_ f ⟨rfl, u⟩
   have j := i.call0 u
   refine ⟨_, rfl, ?_⟩
   refine wR 2 [(1, pB c 0), (11, .bool I)] f ?_
   rcases gx_bif hm with ⟨m, hm⟩ | ⟨m, hm⟩
   ·refine wK 11 true m (wR 1 [(1, pB c 0), (11, .bool true), (12, pB c 2)] f (wV (.string b.Kind) f (eL false 1 2 (j.blk 0 rfl)) ?_))
    obtain ⟨J, F, hm⟩ := gx_bind hm
    refine wC 79 #[.string b.Kind] ((c_s_l22Kind f b.Kind F).mono ?_)
    rintro e_ g ⟨rfl, v⟩
    have k := j.call0 v
    refine ⟨_, rfl, ?_⟩
    refine wR 2 [(1, pB c 0), (16, .bool J)] g ?_
    rcases gx_bif hm with ⟨n, hm⟩ | ⟨n, hm⟩
    ·refine wK 16 true n (wR 1 [(16, .bool true), (17, pB c 3)] g (wV (iv b.Value) g (eL false 1 3 (k.blk 0 rfl)) ?_))
     obtain ⟨K, G, hm⟩ := gx_bind hm
     refine wC 58 #[iv b.Value, iv 0, iv 65535] ((c_s_l1In g b.Value 0 65535 G).mono ?_)
     rintro e_ L ⟨rfl, x⟩
     have y := k.call0 x
     refine ⟨_, rfl, ?_⟩
     refine wR 2 [(2, .bool K)] L (W_nil ?_)
     obtain rfl := Option.some.inj hm
     exact N_meet fun a ha => ⟨y.pk [], ha.s⟩
    refine wK 16 false n (wR 5 [(2, .bool false)] g (W_nil ?_))
    obtain rfl := Option.some.inj hm
    exact N_meet fun a ha => ⟨k.pk [], ha.s⟩
   refine wK 11 false m (wR 10 [(2, .bool false)] f (W_nil ?_))
   obtain rfl := Option.some.inj hm
   exact N_meet fun a ha => ⟨j.pk [], ha.s⟩
  refine wK 6 false l (wR 15 [(2, .bool false)] d (W_nil ?_))
  obtain rfl := Option.some.inj hm
  exact N_meet fun a ha => ⟨i.pk [], ha.s⟩
 intro N O ⟨z, A⟩
 refine N_use A ?_
 have hm := B
 refine N_then (G_ret ?_)
 obtain rfl := Option.some.inj hm
 exact N_ret [.bool q] (rC RVs_nil) (⟨rfl, z.pk []⟩)
theorem c_s_IsEvent (w : World) (a : Event) {r : Bool} (hm : M.s_IsEvent a = some r) :
  Calls Try.prog 14 #[.agg #[iv a.Tick, iv a.Guest, .string a.Kind, iv a.Value]] w fun e w' => e = .returned (.bool r) ∧ Mem [] w w' [] := by
 unfold M.s_IsEvent at hm
 refine cE Try.func14 ?_
 have M0 := Mem.refl [] w
 refine G_seq (G_region (wN (.cells ⟨[iv a.Tick, iv a.Guest, .string a.Kind, iv a.Value]⟩ 26 (0, 0)) M0 ?_))
 intro h b c
 refine wR 1 [(1, pB h 0)] b (W_nil (N_then (G_seq (G_region (wV (.agg #[iv a.Tick, iv a.Guest, .string a.Kind, iv a.Value]) b (eL true 4 0 (c.blk 0 rfl)) ?_)))))
 obtain ⟨d, i, hm⟩ := gx_bind hm
 refine wC 51 #[.agg #[iv a.Tick, iv a.Guest, .string a.Kind, iv a.Value]] ((c_s_l22One b a i).mono ?_)
 rintro e_ j ⟨rfl, f⟩
 have g := c.call0 f
 refine ⟨_, rfl, ?_⟩
 refine wR 1 [(2, .bool d)] j (W_nil (N_then (G_ret ?_)))
 obtain rfl := Option.some.inj hm
 exact N_ret [.bool d] (rC RVs_nil) (⟨rfl, g.pk []⟩)
theorem c_i_inside (w : World) (b : Int) (d : Int) (c : Int) {r : Bool} (hm : M.i_inside b d c = some r) :
  Calls Try.prog 67 #[iv b, iv d, iv c] w fun e w' => e = .returned (.bool r) ∧ Mem [] w w' [] := by
 unfold M.i_inside at hm
 refine cE Try.func67 ?_
 have M0 := Mem.refl [] w
 refine G_seq (G_region (wR 1 [(0, iv b), (1, iv d), (2, iv c)] w (W_nil (N_then (G_seq ?_)))))
 obtain ⟨g, k, j⟩ := gx_bind hm
 refine G_meet (fun a w' => Mem [] w w' [] ∧ Sat Try.f67.ntmps [(6, .bool g)] a) ?_ ?_
 ·have hm := k
  refine G_region (wR 4 [(0, iv b), (2, iv c), (10, .bool (decide (b ≥ d)))] w ?_)
  rcases gx_bif hm with ⟨f, hm⟩ | ⟨f, hm⟩
  ·refine wK 10 true f (wR 5 [(6, .bool (decide (b ≤ c)))] w (W_nil ?_))
   obtain rfl := Option.some.inj hm
   exact N_meet fun a ha => ⟨M0.pk [], ha.s⟩
  refine wK 10 false f (wR 5 [(6, .bool false)] w (W_nil ?_))
  obtain rfl := Option.some.inj hm
  exact N_meet fun a ha => ⟨M0.pk [], ha.s⟩
 intro l m ⟨h, i⟩
 refine N_use i ?_
 have hm := j
 refine N_then (G_ret ?_)
 obtain rfl := Option.some.inj hm
 exact N_ret [.bool g] (rC RVs_nil) (⟨rfl, h.pk []⟩)
theorem c_i_isTick (w : World) (a : Int) {r : Bool} (hm : M.i_isTick a = some r) :
  Calls Try.prog 52 #[iv a] w fun e w' => e = .returned (.bool r) ∧ Mem [] w w' [] := by
 unfold M.i_isTick at hm
 refine cE Try.func52 ?_
 have M0 := Mem.refl [] w
 refine G_seq (G_region (wR 1 [(0, iv a)] w (W_nil (N_then (G_seq (G_region (wR 1 [(3, iv a)] w ?_)))))))
 obtain ⟨b, f, hm⟩ := gx_bind hm
 refine wC 67 #[iv a, iv 0, iv 100000] ((c_i_inside w a 0 100000 f).mono ?_)
 rintro e_ g ⟨rfl, c⟩
 have d := M0.call0 c
 refine ⟨_, rfl, ?_⟩
 refine wR 1 [(2, .bool b)] g (W_nil (N_then (G_ret ?_)))
 obtain rfl := Option.some.inj hm
 exact N_ret [.bool b] (rC RVs_nil) (⟨rfl, d.pk []⟩)
theorem c_i_isParty (w : World) (a : Int) {r : Bool} (hm : M.i_isParty a = some r) :
  Calls Try.prog 53 #[iv a] w fun e w' => e = .returned (.bool r) ∧ Mem [] w w' [] := by
 unfold M.i_isParty at hm
 refine cE Try.func53 ?_
 have M0 := Mem.refl [] w
 refine G_seq (G_region (wR 1 [(0, iv a)] w (W_nil (N_then (G_seq (G_region (wR 1 [(3, iv a)] w ?_)))))))
 obtain ⟨b, f, hm⟩ := gx_bind hm
 refine wC 67 #[iv a, iv 0, iv 4] ((c_i_inside w a 0 4 f).mono ?_)
 rintro e_ g ⟨rfl, c⟩
 have d := M0.call0 c
 refine ⟨_, rfl, ?_⟩
 refine wR 1 [(2, .bool b)] g (W_nil (N_then (G_ret ?_)))
 obtain rfl := Option.some.inj hm
 exact N_ret [.bool b] (rC RVs_nil) (⟨rfl, d.pk []⟩)
theorem c_i_isWord (w : World) (b : ByteArray) {r : Bool} (hm : M.i_isWord b = some r) :
  Calls Try.prog 80 #[.string b] w fun e w' => e = .returned (.bool r) ∧ Mem [] w w' [] := by
 unfold M.i_isWord at hm
 refine cE Try.func80 ?_
 have M0 := Mem.refl [] w
 refine G_seq (G_region (wR 1 [(0, .string b)] w (W_nil (N_then (G_seq (G_seq (G_region (wR 1 [(0, .string b), (3, iv 0)] w (W_nil (N_then ?_))))))))))
 obtain ⟨J, H, m⟩ := gx_bind hm
 refine G_meet (fun a w' => ∃ (o : Unit), J = .inl o ∧ Mem [] w w' [] ∧ Sat Try.f80.ntmps [(0, .string b)] a) ?_ ?_
 ·refine G_block (G_while (σ := Int) (ρ := (Unit) ⊕ (Bool)) (fun c a w' => Mem [] w w' [] ∧ Sat Try.f80.ntmps [(0, .string b), (3, iv c)] a) H (fun a ha => ⟨M0.pk [], ha.s⟩) ?_)
  clear hm
  intro c P hm n L d ⟨f, z⟩
  refine G_use z (G_seq (G_seq (G_region (wR 4 [(0, .string b), (3, iv c), (7, .bool (decide (c < (b.size : Int))))] d (W_nil (N_then ?_))))))
  rcases gx_bif hm with ⟨g, hm⟩ | ⟨g, hm⟩
  ·refine gT g (G_skip (N_then (G_seq (G_block (G_seq ?_)))))
   obtain ⟨I, D, C⟩ := gx_bind hm
   refine G_meet (fun a w' => Mem [] w w' [] ∧ Sat Try.f80.ntmps [(0, .string b), (3, iv c), (19, .bool I)] a) ?_ ?_
   ·have hm := D
    refine G_region (wR 2 [(0, .string b), (3, iv c), (10, .string b), (11, iv c)] d ?_)
    obtain ⟨j, E, hm⟩ := gx_bind hm
    refine wV (.int .u8 j) d (E_strIdx _ _ _ b .i64 c j rfl (by kernel_rfl) (by kernel_rfl) (by kernel_rfl) E) (wR 2 [(0, .string b), (3, iv c), (14, .bool (decide (j < 97)))] d ?_)
    rcases gx_bif hm with ⟨h, hm⟩ | ⟨h, hm⟩
    ·refine wK 14 true h (wR 5 [(0, .string b), (3, iv c), (19, .bool true)] d (W_nil ?_))
     obtain rfl := Option.some.inj hm
     exact N_meet fun a ha => ⟨f.pk [], ha.s⟩
    refine wK 14 false h (wR 2 [(0, .string b), (3, iv c), (14, .bool false), (15, .string b), (16, iv c)] d ?_)
    obtain ⟨k, F, hm⟩ := gx_bind hm
    refine wV (.int .u8 k) d (E_strIdx _ _ _ b .i64 c k rfl (by kernel_rfl) (by kernel_rfl) (by kernel_rfl) F) (wR 2 [(0, .string b), (3, iv c), (19, .bool (decide (k > 122)))] d (W_nil ?_))
    obtain rfl := Option.some.inj hm
    exact N_meet fun a ha => ⟨f.pk [], ha.s⟩
   intro N t ⟨l, A⟩
   refine N_use A ?_
   have hm := C
   refine N_then ?_
   rcases gx_bif hm with ⟨i, hm⟩ | ⟨i, hm⟩
   ·refine gT i (G_seq (G_region (wR 1 [(2, .bool false)] t (W_nil (N_then (G_ret (N_block_ret (N_then_ret (N_then_ret ?_)))))))))
    obtain rfl := Option.some.inj hm
    obtain rfl := n _ rfl
    have hm := m; simp only [Sum.elim_inr] at hm
    refine N_block_ret (N_meet_ret (N_then_ret ?_))
    obtain rfl := Option.some.inj hm
    exact N_ret [.bool false] (rC RVs_nil) (⟨rfl, l.pk []⟩)
   refine gF i (G_skip (N_block (N_then (G_region (wR 3 [(0, .string b), (3, iv (w64 (c + 1)))] t (W_nil ?_))))))
   obtain rfl := Option.some.inj hm
   exact N_loop fun a ha => ⟨_, rfl, l.pk [], ha.s⟩
  refine gF g (G_exit (N_then_exit (N_then_exit (N_block_eq ?_))))
  obtain rfl := Option.some.inj hm
  obtain rfl := n _ rfl
  exact N_meet fun a ha => ⟨_, rfl, f.pk [], ha.s⟩
 intro O u ⟨o, hout_, x, B⟩
 refine N_use B ?_
 subst hout_
 have hm := m; simp only [Sum.elim_inl] at hm
 refine N_then (G_seq (G_region (wR 2 [(21, iv (b.size : Int))] u ?_)))
 obtain ⟨q, G, hm⟩ := gx_bind hm
 refine wC 67 #[iv (b.size : Int), iv 1, iv 10] ((c_i_inside u (b.size : Int) 1 10 G).mono ?_)
 rintro e_ K ⟨rfl, v⟩
 have y := x.call0 v
 refine ⟨_, rfl, ?_⟩
 refine wR 1 [(2, .bool q)] K (W_nil (N_then (G_ret ?_)))
 obtain rfl := Option.some.inj hm
 exact N_ret [.bool q] (rC RVs_nil) (⟨rfl, y.pk []⟩)
theorem c_i_isEventKind (w : World) (b : ByteArray) {r : Bool} (hm : M.i_isEventKind b = some r) :
  Calls Try.prog 54 #[.string b] w fun e w' => e = .returned (.bool r) ∧ Mem [] w w' [] := by
 unfold M.i_isEventKind at hm
 refine cE Try.func54 ?_
 have M0 := Mem.refl [] w
 refine G_seq (G_region (wR 1 [(0, .string b)] w (W_nil (N_then (G_seq ?_)))))
 obtain ⟨g, l, k⟩ := gx_bind hm
 refine G_meet (fun a w' => Mem [] w w' [] ∧ Sat Try.f54.ntmps [(2, .bool g)] a) ?_ ?_
 ·have hm := l
  refine G_region (wR 1 [(0, .string b), (3, .string b)] w ?_)
  obtain ⟨n, m, hm⟩ := gx_bind hm
  refine wC 80 #[.string b] ((c_i_isWord w b m).mono ?_)
  rintro e_ d ⟨rfl, h⟩
  have f := M0.call0 h
  refine ⟨_, rfl, ?_⟩
  refine wR 1 [(0, .string b), (5, .bool n)] d ?_
  rcases gx_bif hm with ⟨c, hm⟩ | ⟨c, hm⟩
  ·refine wK 5 true c (wR 5 [(2, .bool (decide ((b.size : Int) ≤ 8)))] d (W_nil ?_))
   obtain rfl := Option.some.inj hm
   exact N_meet fun a ha => ⟨f.pk [], ha.s⟩
  refine wK 5 false c (wR 5 [(2, .bool false)] d (W_nil ?_))
  obtain rfl := Option.some.inj hm
  exact N_meet fun a ha => ⟨f.pk [], ha.s⟩
 intro o q ⟨i, j⟩
 refine N_use j ?_
 have hm := k
 refine N_then (G_ret ?_)
 obtain rfl := Option.some.inj hm
 exact N_ret [.bool g] (rC RVs_nil) (⟨rfl, i.pk []⟩)
theorem c_i_isWord16 (w : World) (a : Int) {r : Bool} (hm : M.i_isWord16 a = some r) :
  Calls Try.prog 55 #[iv a] w fun e w' => e = .returned (.bool r) ∧ Mem [] w w' [] := by
 unfold M.i_isWord16 at hm
 refine cE Try.func55 ?_
 have M0 := Mem.refl [] w
 refine G_seq (G_region (wR 1 [(0, iv a)] w (W_nil (N_then (G_seq (G_region (wR 1 [(3, iv a)] w ?_)))))))
 obtain ⟨b, f, hm⟩ := gx_bind hm
 refine wC 67 #[iv a, iv 0, iv 65535] ((c_i_inside w a 0 65535 f).mono ?_)
 rintro e_ g ⟨rfl, c⟩
 have d := M0.call0 c
 refine ⟨_, rfl, ?_⟩
 refine wR 1 [(2, .bool b)] g (W_nil (N_then (G_ret ?_)))
 obtain rfl := Option.some.inj hm
 exact N_ret [.bool b] (rC RVs_nil) (⟨rfl, d.pk []⟩)
theorem c_i_IsEvent (w : World) (b : Event) {r : Bool} (hm : M.i_IsEvent b = some r) :
  Calls Try.prog 16 #[.agg #[iv b.Tick, iv b.Guest, .string b.Kind, iv b.Value]] w fun e w' => e = .returned (.bool r) ∧ Mem [] w w' [] := by
 unfold M.i_IsEvent at hm
 refine cE Try.func16 ?_
 have M0 := Mem.refl [] w
 refine G_seq (G_region (wN (.cells ⟨[iv b.Tick, iv b.Guest, .string b.Kind, iv b.Value]⟩ 26 (0, 0)) M0 ?_))
 intro c h o
 refine wR 1 [(1, pB c 0)] h (W_nil (N_then (G_seq ?_)))
 obtain ⟨q, C, B⟩ := gx_bind hm
 refine G_meet (fun a w' => Mem [] w w' [] ∧ Sat Try.f16.ntmps [(2, .bool q)] a) ?_ ?_
 ·have hm := C
  refine G_region (wR 1 [(1, pB c 0), (3, pB c 0)] h (wV (iv b.Tick) h (eL false 1 0 (o.blk 0 rfl)) ?_))
  obtain ⟨H, D, hm⟩ := gx_bind hm
  refine wC 52 #[iv b.Tick] ((c_i_isTick h b.Tick D).mono ?_)
  rintro e_ d ⟨rfl, t⟩
  have i := o.call0 t
  refine ⟨_, rfl, ?_⟩
  refine wR 1 [(1, pB c 0), (6, .bool H)] d ?_
  rcases gx_bif hm with ⟨l, hm⟩ | ⟨l, hm⟩
  ·refine wK 6 true l (wR 1 [(1, pB c 0), (6, .bool true), (7, pB c 1)] d (wV (iv b.Guest) d (eL false 1 1 (i.blk 0 rfl)) ?_))
   obtain ⟨I, E, hm⟩ := gx_bind hm
   refine wC 53 #[iv b.Guest] ((c_i_isParty d b.Guest E).mono ?_)
   rintro e_ f ⟨rfl, u⟩
   have j := i.call0 u
   refine ⟨_, rfl, ?_⟩
   refine wR 2 [(1, pB c 0), (11, .bool I)] f ?_
   rcases gx_bif hm with ⟨m, hm⟩ | ⟨m, hm⟩
   ·refine wK 11 true m (wR 1 [(1, pB c 0), (11, .bool true), (12, pB c 2)] f (wV (.string b.Kind) f (eL false 1 2 (j.blk 0 rfl)) ?_))
    obtain ⟨J, F, hm⟩ := gx_bind hm
    refine wC 54 #[.string b.Kind] ((c_i_isEventKind f b.Kind F).mono ?_)
    rintro e_ g ⟨rfl, v⟩
    have k := j.call0 v
    refine ⟨_, rfl, ?_⟩
    refine wR 2 [(1, pB c 0), (16, .bool J)] g ?_
    rcases gx_bif hm with ⟨n, hm⟩ | ⟨n, hm⟩
    ·refine wK 16 true n (wR 1 [(16, .bool true), (17, pB c 3)] g (wV (iv b.Value) g (eL false 1 3 (k.blk 0 rfl)) ?_))
     obtain ⟨K, G, hm⟩ := gx_bind hm
     refine wC 55 #[iv b.Value] ((c_i_isWord16 g b.Value G).mono ?_)
     rintro e_ L ⟨rfl, x⟩
     have y := k.call0 x
     refine ⟨_, rfl, ?_⟩
     refine wR 2 [(2, .bool K)] L (W_nil ?_)
     obtain rfl := Option.some.inj hm
     exact N_meet fun a ha => ⟨y.pk [], ha.s⟩
    refine wK 16 false n (wR 5 [(2, .bool false)] g (W_nil ?_))
    obtain rfl := Option.some.inj hm
    exact N_meet fun a ha => ⟨k.pk [], ha.s⟩
   refine wK 11 false m (wR 10 [(2, .bool false)] f (W_nil ?_))
   obtain rfl := Option.some.inj hm
   exact N_meet fun a ha => ⟨j.pk [], ha.s⟩
  refine wK 6 false l (wR 15 [(2, .bool false)] d (W_nil ?_))
  obtain rfl := Option.some.inj hm
  exact N_meet fun a ha => ⟨i.pk [], ha.s⟩
 intro N O ⟨z, A⟩
 refine N_use A ?_
 have hm := B
 refine N_then (G_ret ?_)
 obtain rfl := Option.some.inj hm
 exact N_ret [.bool q] (rC RVs_nil) (⟨rfl, z.pk []⟩)
theorem c_l_FnExactIsEvent (w : World) (x1 : Event) {r : Bool} (hm : M.l_FnExactIsEvent x1 = some r) :
  Calls Try.prog 3 #[.agg #[iv x1.Tick, iv x1.Guest, .string x1.Kind, iv x1.Value]] w fun e w' => e = .returned (.bool r) ∧ Mem [] w w' [] := by
 unfold M.l_FnExactIsEvent at hm
 refine cE Try.func3 ?_
 have M0 := Mem.refl [] w
 refine G_seq (G_region (wN (.cells ⟨[iv x1.Tick, iv x1.Guest, .string x1.Kind, iv x1.Value]⟩ 23 (0, 0)) M0 ?_))
 intro b3 w4 M5
 refine wR 1 [(1, pB b3 0)] w4 (W_nil (N_then (G_seq (G_region (wR 1 [(1, pB b3 0), (3, iv 1048576)] w4 (W_nil (N_then (G_seq (G_region (wV (.agg #[iv x1.Tick, iv x1.Guest, .string x1.Kind, iv x1.Value]) w4 (eL true 4 0 (M5.blk 0 rfl)) (wR 1 [(1, pB b3 0), (3, iv 1048576), (6, .agg #[iv x1.Tick, iv x1.Guest, .string x1.Kind, iv x1.Value]), (7, iv 1048576)] w4 ?_)))))))))))
 obtain ⟨m, z, hm⟩ := gx_bind hm
 refine wC 13 #[.agg #[iv x1.Tick, iv x1.Guest, .string x1.Kind, iv x1.Value], iv 1048576] ((c_l_szEvent w4 x1 1048576 z).mono ?_)
 rintro e_ c ⟨rfl, o⟩
 have f := M5.call0 o
 refine ⟨_, rfl, ?_⟩
 refine wR 1 [(1, pB b3 0), (3, iv m)] c (W_nil (N_then (G_seq (G_seq (G_region (wR 2 [(1, pB b3 0), (10, .bool (decide (m < 0)))] c (W_nil (N_then ?_))))))))
 rcases gx_bif hm with ⟨g, hm⟩ | ⟨g, hm⟩
 ·refine gT g (G_seq (G_region (wR 1 [(2, .bool true)] c (W_nil (N_then (G_ret (N_then_ret ?_)))))))
  obtain rfl := Option.some.inj hm
  exact N_ret [.bool true] (rC RVs_nil) (⟨rfl, f.pk []⟩)
 refine gF g (G_skip (N_then (G_seq (G_region (wV (.agg #[iv x1.Tick, iv x1.Guest, .string x1.Kind, iv x1.Value]) c (eL true 4 0 (f.blk 0 rfl)) ?_)))))
 obtain ⟨b, D, hm⟩ := gx_bind hm
 refine wC 15 #[.agg #[iv x1.Tick, iv x1.Guest, .string x1.Kind, iv x1.Value]] ((c_l_toEvent c x1 D).mono ?_)
 rintro e_ F ⟨rfl, v⟩
 have y := f.call0 v
 refine ⟨_, rfl, ?_⟩
 obtain ⟨i, A, hm⟩ := gx_bind hm
 refine wC 14 #[.agg #[iv b.Tick, iv b.Guest, .string b.Kind, iv b.Value]] ((c_s_IsEvent F b A).mono ?_)
 rintro e_ j ⟨rfl, q⟩
 have k := y.call0 q
 refine ⟨_, rfl, ?_⟩
 refine wR 1 [(1, pB b3 0), (4, .bool i)] j (W_nil (N_then (G_seq (G_region (wV (.agg #[iv x1.Tick, iv x1.Guest, .string x1.Kind, iv x1.Value]) j (eL true 4 0 (k.blk 0 rfl)) ?_)))))
 obtain ⟨a, B, hm⟩ := gx_bind hm
 refine wC 15 #[.agg #[iv x1.Tick, iv x1.Guest, .string x1.Kind, iv x1.Value]] ((c_l_toEvent j x1 B).mono ?_)
 rintro e_ E ⟨rfl, t⟩
 have x := k.call0 t
 refine ⟨_, rfl, ?_⟩
 obtain ⟨n, C, hm⟩ := gx_bind hm
 refine wC 16 #[.agg #[iv a.Tick, iv a.Guest, .string a.Kind, iv a.Value]] ((c_i_IsEvent E a C).mono ?_)
 rintro e_ d ⟨rfl, u⟩
 have l := x.call0 u
 refine ⟨_, rfl, ?_⟩
 refine wR 1 [(4, .bool i), (5, .bool n)] d (W_nil (N_then (G_seq (G_seq (G_region (wR 3 [(19, .bool (!(n == i)))] d (W_nil (N_then ?_))))))))
 rcases gx_bif hm with ⟨h, hm⟩ | ⟨h, hm⟩
 ·refine gT h (G_seq (G_region (wR 1 [(2, .bool false)] d (W_nil (N_then (G_ret (N_then_ret ?_)))))))
  obtain rfl := Option.some.inj hm
  exact N_ret [.bool false] (rC RVs_nil) (⟨rfl, l.pk []⟩)
 refine gF h (G_skip (N_then (G_seq (G_region (wR 1 [(2, .bool true)] d (W_nil (N_then (G_ret ?_))))))))
 obtain rfl := Option.some.inj hm
 exact N_ret [.bool true] (rC RVs_nil) (⟨rfl, l.pk []⟩)
theorem c_l_szEventS (w : World) (b : List Event) (d : Option Addr) (f : Nat) (u : rdS encEvent w b d f) (h : Int) {r : Int} (hm : M.l_szEventS b h = some r) :
  Calls Try.prog 17 #[.slice d b.length f, iv h] w fun e w' => e = .returned (iv r) ∧ Mem [] w w' [] := by
 unfold M.l_szEventS at hm
 refine cE Try.func17 ?_
 have M0 := Mem.refl [] w
 refine G_seq (G_region (wR 1 [(0, .slice d b.length f), (1, iv h)] w (W_nil (N_then (G_seq (G_region (wR 5 [(0, .slice d b.length f), (1, iv (w64 (h - (b.length : Int))))] w (W_nil (N_then (G_seq (G_seq (G_region (wR 2 [(0, .slice d b.length f), (1, iv (w64 (h - (b.length : Int)))), (11, .bool (decide ((w64 (h - (b.length : Int))) < 0)))] w (W_nil (N_then ?_)))))))))))))))
 rcases gx_bif hm with ⟨n, hm⟩ | ⟨n, hm⟩
 ·refine gT n (G_seq (G_region (wR 1 [(4, iv (-1))] w (W_nil (N_then (G_ret (N_then_ret ?_)))))))
  obtain rfl := Option.some.inj hm
  exact N_ret [iv (-1)] (rC RVs_nil) (⟨rfl, M0.pk []⟩)
 refine gF n (G_skip (N_then (G_seq (G_seq (G_region (wR 1 [(0, .slice d b.length f), (1, iv (w64 (h - (b.length : Int)))), (5, iv 0)] w (W_nil (N_then ?_))))))))
 obtain ⟨F, E, v⟩ := gx_bind hm
 refine G_meet (fun a w' => ∃ (j : Int), F = .inl j ∧ Mem [] w w' [] ∧ Sat Try.f17.ntmps [(1, iv j)] a) ?_ ?_
 ·refine G_block (G_while (σ := Int × Int) (ρ := (Int) ⊕ (Int)) (fun c a w' => Mem [] w w' [] ∧ Sat Try.f17.ntmps [(0, .slice d b.length f), (1, iv c.1), (5, iv c.2)] a) E (fun a ha => ⟨M0.pk [], ha.s⟩) ?_)
  clear hm
  intro c J hm x H i ⟨k, B⟩
  refine G_use B (G_seq (G_seq (G_region (wR 4 [(0, .slice d b.length f), (1, iv c.1), (5, iv c.2), (15, .bool (decide (c.2 < (b.length : Int))))] i (W_nil (N_then ?_))))))
  rcases gx_bif hm with ⟨o, hm⟩ | ⟨o, hm⟩
  ·refine gT o (G_skip (N_then (G_seq (G_block (G_seq (G_region (wR 2 [(0, .slice d b.length f), (1, iv c.1), (5, iv c.2), (18, .slice d b.length f), (19, iv c.2)] i ?_)))))))
   obtain ⟨g, y, hm⟩ := gx_bind hm
   refine wV (elemP d (c.2.toNat * 4)) i (eI (u.mem0 k) rfl y) (wV (.agg #[iv g.Tick, iv g.Guest, .string g.Kind, iv g.Value]) i (eE true 4 0 (c.2.toNat * 4) (u.mem0 k) y) (wR 1 [(0, .slice d b.length f), (1, iv c.1), (5, iv c.2), (21, .agg #[iv g.Tick, iv g.Guest, .string g.Kind, iv g.Value]), (22, iv c.1)] i ?_))
   obtain ⟨l, D, hm⟩ := gx_bind hm
   refine wC 13 #[.agg #[iv g.Tick, iv g.Guest, .string g.Kind, iv g.Value], iv c.1] ((c_l_szEvent i g c.1 D).mono ?_)
   rintro e_ m ⟨rfl, z⟩
   have t := k.call0 z
   refine ⟨_, rfl, ?_⟩
   refine wR 1 [(0, .slice d b.length f), (1, iv l), (5, iv c.2)] m (W_nil (N_then (G_seq (G_region (wR 2 [(0, .slice d b.length f), (1, iv l), (5, iv c.2), (25, .bool (decide (l < 0)))] m (W_nil (N_then ?_)))))))
   rcases gx_bif hm with ⟨q, hm⟩ | ⟨q, hm⟩
   ·refine gT q (G_seq (G_region (wR 1 [(4, iv (-1))] m (W_nil (N_then (G_ret (N_block_ret (N_then_ret (N_then_ret ?_)))))))))
    obtain rfl := Option.some.inj hm
    obtain rfl := x _ rfl
    have hm := v; simp only [Sum.elim_inr] at hm
    refine N_block_ret (N_meet_ret (N_then_ret ?_))
    obtain rfl := Option.some.inj hm
    exact N_ret [iv (-1)] (rC RVs_nil) (⟨rfl, t.pk []⟩)
   refine gF q (G_skip (N_block (N_then (G_region (wR 3 [(0, .slice d b.length f), (1, iv l), (5, iv (w64 (c.2 + 1)))] m (W_nil ?_))))))
   obtain rfl := Option.some.inj hm
   exact N_loop fun a ha => ⟨_, rfl, t.pk [], ha.s⟩
  refine gF o (G_exit (N_then_exit (N_then_exit (N_block_eq ?_))))
  obtain rfl := Option.some.inj hm
  obtain rfl := x _ rfl
  exact N_meet fun a ha => ⟨_, rfl, k.pk [], ha.s⟩
 intro I G ⟨j, hout_, A, C⟩
 refine N_use C ?_
 subst hout_
 have hm := v; simp only [Sum.elim_inl] at hm
 refine N_then (G_seq (G_region (wR 2 [(4, iv j)] G (W_nil (N_then (G_ret ?_))))))
 obtain rfl := Option.some.inj hm
 exact N_ret [iv j] (rC RVs_nil) (⟨rfl, A.pk []⟩)
theorem c_l_toEventS (w : World) (f : List Event) (g : Option Addr) (h : Nat) (x : rdS encEvent w f g h) {r : (List Event)} (hm : M.l_toEventS f = some r) :
  Calls Try.prog 19 #[.slice g f.length h] w fun e w' => ∃ (B : Option Addr) (v : Nat) (C : Seg), e = .returned (.slice B r.length v) ∧ ownS encEvent r B v C ∧ Mem [] w w' [C] := by
 unfold M.l_toEventS at hm
 refine cE Try.func19 ?_
 have M0 := Mem.refl [] w
 refine G_seq (G_region (wR 1 [(0, .slice g f.length h)] w (W_nil (N_then (G_seq (G_region (wR 2 [(0, .slice g f.length h), (6, iv (f.length : Int))] w ?_)))))))
 obtain ⟨A, L, hm⟩ := gx_bind hm
 refine W_make (E := encEvent) _ _ _ (f.length : Int) 40 [iv 0, iv 0, .string ByteArray.empty, iv 0] ((⟨0, 0, ByteArray.empty, 0⟩ : Event) : Event) M0 (by kernel_rfl) rfl (by kernel_rfl) (by kernel_rfl) (by kernel_rfl) (by kernel_rfl) (by kernel_rfl) L ?_
 intro c d U D O G
 refine wR 1 [(0, .slice g f.length h), (3, .slice c A.length d)] D (W_nil (N_then (G_seq (G_seq (G_region (wR 1 [(0, .slice g f.length h), (3, .slice c A.length d), (4, iv 0)] D (W_nil (N_then ?_))))))))
 obtain ⟨m, T, N⟩ := gx_bind hm
 refine G_meet (fun a w' => ∃ (o : Seg), ownS encEvent m c d o ∧ Mem [] w w' [o] ∧ Sat Try.f19.ntmps [(3, .slice c m.length d)] a) ?_ ?_
 ·refine G_block (G_while (σ := Int × List Event) (ρ := List Event) (fun b a w' => ∃ (n : Seg), ownS encEvent b.2 c d n ∧ Mem [] w w' [n] ∧ Sat Try.f19.ntmps [(0, .slice g f.length h), (3, .slice c b.2.length d), (4, iv b.1)] a) T (fun a ha => ⟨U, O, G.pk [0], ha.s⟩) ?_)
  clear hm
  intro b ac hm R aa k ⟨n, t, l, J⟩
  refine G_use J (G_seq (G_seq (G_region (wR 4 [(0, .slice g f.length h), (3, .slice c b.2.length d), (4, iv b.1), (11, .bool (decide (b.1 < (f.length : Int))))] k (W_nil (N_then ?_))))))
  rcases gx_bif hm with ⟨q, hm⟩ | ⟨q, hm⟩
  ·refine gT q (G_skip (N_then (G_seq (G_block (G_region (wR 4 [(0, .slice g f.length h), (3, .slice c b.2.length d), (4, iv b.1), (14, .slice c b.2.length d), (15, iv b.1), (16, .slice g f.length h), (17, iv b.1)] k ?_))))))
   obtain ⟨j, y, hm⟩ := gx_bind hm
   refine wV (elemP g (b.1.toNat * 4)) k (eI (x.mem0 l) rfl y) (wV (.agg #[iv j.Tick, iv j.Guest, .string j.Kind, iv j.Value]) k (eE true 4 0 (b.1.toNat * 4) (x.mem0 l) y) ?_)
   obtain ⟨i, S, hm⟩ := gx_bind hm
   refine wC 15 #[.agg #[iv j.Tick, iv j.Guest, .string j.Kind, iv j.Value]] ((c_l_toEvent k j S).mono ?_)
   rintro e_ W ⟨rfl, F⟩
   have u := l.call0 F
   refine ⟨_, rfl, ?_⟩
   obtain ⟨Z, z, hm⟩ := gx_bind hm
   refine wV (elemP c (b.1.toNat * 4)) W (eI (t.rd u 0 (by kernel_rfl)) rfl z) (wE true 4 b.1.toNat 0 (b.1.toNat * 4) Z i (.agg #[iv i.Tick, iv i.Guest, .string i.Kind, iv i.Value]) 0 u t (gxIdx_spec z).2 ?_)
   intro X V Q H
   refine wX 3 (.slice c b.2.length d) (.slice c (b.2.set b.1.toNat i).length d) (by rw [@List.length_set _ b.2 b.1.toNat i]) (wX 14 (.slice c b.2.length d) (.slice c (b.2.set b.1.toNat i).length d) (by rw [@List.length_set _ b.2 b.1.toNat i]) (W_nil (N_block (N_then (G_region (wR 3 [(0, .slice g f.length h), (3, .slice c (b.2.set b.1.toNat i).length d), (4, iv (w64 (b.1 + 1)))] X (W_nil ?_)))))))
   obtain rfl := Option.some.inj hm
   exact N_loop fun a ha => ⟨_, rfl, V, Q, H.pk [0], ha.s⟩
  refine gF q (G_exit (N_then_exit (N_then_exit (N_block_eq ?_))))
  obtain rfl := Option.some.inj hm
  obtain rfl := R _ rfl
  exact N_meet fun a ha => ⟨n, t, l.pk [0], ha.s⟩
 intro ab Y ⟨o, P, I, K⟩
 refine N_use K ?_
 have hm := N
 refine N_then (G_seq (G_region (wR 2 [(2, .slice c m.length d)] Y (W_nil (N_then (G_ret ?_))))))
 obtain rfl := Option.some.inj hm
 exact N_ret [.slice c m.length d] (rC RVs_nil) (⟨c, d, o, rfl, P, I.pk [0]⟩)
theorem c_s_l22Good (w : World) (d : List Event) (c : Option Addr) (f : Nat) (h : rdS encEvent w d c f) {r : Bool} (hm : M.s_l22Good d = some r) :
  Calls Try.prog 56 #[.slice c d.length f] w fun e w' => e = .returned (.bool r) ∧ Mem [] w w' [] := by
 unfold M.s_l22Good at hm
 refine cE Try.func56 ?_
 have M0 := Mem.refl [] w
 refine G_seq (G_region (wR 1 [(0, .slice c d.length f)] w (W_nil (N_then (G_seq (G_seq (G_region (wR 1 [(0, .slice c d.length f), (3, iv 0)] w (W_nil (N_then ?_))))))))))
 obtain ⟨P, N, x⟩ := gx_bind hm
 refine G_meet (fun a w' => ∃ (A : Unit), P = .inl A ∧ Mem [] w w' [] ∧ Sat Try.f56.ntmps [(0, .slice c d.length f)] a) ?_ ?_
 ·refine G_block (G_while (σ := Int) (ρ := (Unit) ⊕ (Bool)) (fun b a w' => Mem [] w w' [] ∧ Sat Try.f56.ntmps [(0, .slice c d.length f), (3, iv b)] a) N (fun a ha => ⟨M0.pk [], ha.s⟩) ?_)
  clear hm
  intro b Y hm y S Q ⟨u, G⟩
  refine G_use G (G_seq (G_seq (G_region (wR 4 [(0, .slice c d.length f), (3, iv b), (7, .bool (decide (b < (d.length : Int))))] Q (W_nil (N_then ?_))))))
  rcases gx_bif hm with ⟨l, hm⟩ | ⟨l, hm⟩
  ·refine gT l (G_skip (N_then (G_seq (G_block (G_seq ?_)))))
   obtain ⟨O, K, J⟩ := gx_bind hm
   refine G_meet (fun a w' => Mem [] w w' [] ∧ Sat Try.f56.ntmps [(0, .slice c d.length f), (3, iv b), (33, .bool O)] a) ?_ ?_
   ·have hm := K
    refine G_quiet (by kernel_rfl) (by kernel_rfl) u (zR [.slice c d.length f, iv b] [(0, .slice c d.length f), (3, iv b), (10, .slice c d.length f), (11, iv b)] ?_)
    obtain ⟨g, z, hm⟩ := gx_bind hm
    refine zV (elemP c (b.toNat * 4)) (fun w_ M_ => (eI (h.mem0 M_) rfl z)) (zV (.agg #[iv g.Tick, iv g.Guest, .string g.Kind, iv g.Value]) (fun w_ M_ => (eE true 4 0 (b.toNat * 4) (h.mem0 M_) z)) ?_)
    obtain ⟨k, L, hm⟩ := gx_bind hm
    refine Z_call 51 #[.agg #[iv g.Tick, iv g.Guest, .string g.Kind, iv g.Value]] (.bool k) (by kernel_rfl) (fun w_ => by kernel_rfl) (fun w_ M_ => (c_s_l22One w_ g L).mono fun e w2_ h_ => ⟨h_.1, M_.call0 h_.2⟩) (zR [.bool (!k), .bool (!k)] [(0, .slice c d.length f), (3, iv b), (16, .bool (!k))] ?_)
    rcases gx_bif hm with ⟨m, hm⟩ | ⟨m, hm⟩
    ·refine zK 16 true m (zR [undef, undef, undef, undef, undef, undef, undef, undef, undef, undef, undef, undef, undef, undef, undef, undef, .bool true] [(0, .slice c d.length f), (3, iv b), (33, .bool true)] (Z_end fun V C => ?_))
     obtain rfl := Option.some.inj hm
     exact N_meet fun a ha => ⟨C.pk [], ha.s⟩
    refine zK 16 false m (zR [iv b, .bool (decide (b > 0)), .bool (decide (b > 0))] [(0, .slice c d.length f), (3, iv b), (16, .bool false), (19, .bool (decide (b > 0)))] ?_)
    rcases gx_bif hm with ⟨n, hm⟩ | ⟨n, hm⟩
    ·refine zK 19 true n (zR [.slice c d.length f, iv b, iv (w64 (b - 1))] [(0, .slice c d.length f), (3, iv b), (16, .bool false), (19, .bool true), (20, .slice c d.length f), (22, iv (w64 (b - 1)))] ?_)
     obtain ⟨i, q, hm⟩ := gx_bind hm
     refine zV (elemP c ((w64 (b - 1)).toNat * 4)) (fun w_ M_ => (eI (h.mem0 M_) rfl q)) (zV (elemP c ((w64 (b - 1)).toNat * 4 + 0)) (fun w_ M_ => (eF 0 ((w64 (b - 1)).toNat * 4) 0 (h.mem0 M_) q)) (zV (iv i.Tick) (fun w_ M_ => (eE false 1 0 ((w64 (b - 1)).toNat * 4 + 0) (h.mem0 M_) q)) (zR [.slice c d.length f, iv b] [(0, .slice c d.length f), (3, iv b), (16, .bool false), (19, .bool true), (25, iv i.Tick), (26, .slice c d.length f), (27, iv b)] ?_)))
     obtain ⟨j, t, hm⟩ := gx_bind hm
     refine zV (elemP c (b.toNat * 4)) (fun w_ M_ => (eI (h.mem0 M_) rfl t)) (zV (elemP c (b.toNat * 4 + 0)) (fun w_ M_ => (eF 0 (b.toNat * 4) 0 (h.mem0 M_) t)) (zV (iv j.Tick) (fun w_ M_ => (eE false 1 0 (b.toNat * 4 + 0) (h.mem0 M_) t)) (zR [.bool (decide (i.Tick > j.Tick)), .bool (decide (i.Tick > j.Tick)), .bool (decide (i.Tick > j.Tick))] [(0, .slice c d.length f), (3, iv b), (33, .bool (decide (i.Tick > j.Tick)))] (Z_end fun W D => ?_))))
     obtain rfl := Option.some.inj hm
     exact N_meet fun a ha => ⟨D.pk [], ha.s⟩
    refine zK 19 false n (zR [undef, undef, undef, undef, undef, undef, undef, undef, undef, undef, undef, undef, .bool false, .bool false] [(0, .slice c d.length f), (3, iv b), (33, .bool false)] (Z_end fun X E => ?_))
    obtain rfl := Option.some.inj hm
    exact N_meet fun a ha => ⟨E.pk [], ha.s⟩
   intro T B ⟨v, H⟩
   refine N_use H ?_
   have hm := J
   refine N_then ?_
   rcases gx_bif hm with ⟨o, hm⟩ | ⟨o, hm⟩
   ·refine gT o (G_seq (G_region (wR 1 [(2, .bool false)] B (W_nil (N_then (G_ret (N_block_ret (N_then_ret (N_then_ret ?_)))))))))
    obtain rfl := Option.some.inj hm
    obtain rfl := y _ rfl
    have hm := x; simp only [Sum.elim_inr] at hm
    refine N_block_ret (N_meet_ret (N_then_ret ?_))
    obtain rfl := Option.some.inj hm
    exact N_ret [.bool false] (rC RVs_nil) (⟨rfl, v.pk []⟩)
   refine gF o (G_skip (N_block (N_then (G_region (wR 3 [(0, .slice c d.length f), (3, iv (w64 (b + 1)))] B (W_nil ?_))))))
   obtain rfl := Option.some.inj hm
   exact N_loop fun a ha => ⟨_, rfl, v.pk [], ha.s⟩
  refine gF l (G_exit (N_then_exit (N_then_exit (N_block_eq ?_))))
  obtain rfl := Option.some.inj hm
  obtain rfl := y _ rfl
  exact N_meet fun a ha => ⟨_, rfl, u.pk [], ha.s⟩
 intro U R ⟨A, hout_, F, I⟩
 refine N_use I ?_
 subst hout_
 have hm := x; simp only [Sum.elim_inl] at hm
 refine N_then (G_seq (G_region (wR 4 [(2, .bool (decide ((d.length : Int) ≤ 30)))] R (W_nil (N_then (G_ret ?_))))))
 obtain rfl := Option.some.inj hm
 exact N_ret [.bool (decide ((d.length : Int) ≤ 30))] (rC RVs_nil) (⟨rfl, F.pk []⟩)
theorem c_s_IsRecord (w : World) (a : List Event) (c : Option Addr) (b : Nat) (h : rdS encEvent w a c b) {r : Bool} (hm : M.s_IsRecord a = some r) :
  Calls Try.prog 18 #[.slice c a.length b] w fun e w' => e = .returned (.bool r) ∧ Mem [] w w' [] := by
 unfold M.s_IsRecord at hm
 refine cE Try.func18 ?_
 have M0 := Mem.refl [] w
 refine G_seq (G_region (wR 1 [(0, .slice c a.length b)] w (W_nil (N_then (G_seq (G_region (wR 1 [(3, .slice c a.length b)] w ?_)))))))
 obtain ⟨d, i, hm⟩ := gx_bind hm
 refine wC 56 #[.slice c a.length b] ((c_s_l22Good w a c b (h.mem0 M0) i).mono ?_)
 rintro e_ w641 ⟨rfl, f⟩
 have g := M0.call0 f
 refine ⟨_, rfl, ?_⟩
 refine wR 1 [(2, .bool d)] w641 (W_nil (N_then (G_ret ?_)))
 obtain rfl := Option.some.inj hm
 exact N_ret [.bool d] (rC RVs_nil) (⟨rfl, g.pk []⟩)
theorem c_i_IsRecord (w : World) (b : List Event) (c : Option Addr) (d : Nat) (j : rdS encEvent w b c d) {r : Bool} (hm : M.i_IsRecord b = some r) :
  Calls Try.prog 20 #[.slice c b.length d] w fun e w' => e = .returned (.bool r) ∧ Mem [] w w' [] := by
 unfold M.i_IsRecord at hm
 refine cE Try.func20 ?_
 have M0 := Mem.refl [] w
 refine G_seq (G_region (wR 1 [(0, .slice c b.length d)] w (W_nil (N_then (G_seq (G_seq (G_region (wR 3 [(0, .slice c b.length d), (5, .slice c b.length d), (6, iv (b.length : Int)), (7, iv 0)] w (W_nil (N_then ?_))))))))))
 obtain ⟨R, P, x⟩ := gx_bind hm
 refine G_meet (fun a w' => ∃ (A : Unit), R = .inl A ∧ Mem [] w w' [] ∧ Sat Try.f20.ntmps [(0, .slice c b.length d)] a) ?_ ?_
 ·refine G_block (G_while (σ := Int) (ρ := (Unit) ⊕ (Bool)) (fun f a w' => Mem [] w w' [] ∧ Sat Try.f20.ntmps [(0, .slice c b.length d), (5, .slice c b.length d), (6, iv (b.length : Int)), (7, iv f)] a) P (fun a ha => ⟨M0.pk [], ha.s⟩) ?_)
  clear hm
  intro f ab hm y U m ⟨k, I⟩
  refine G_use I (G_seq (G_region (wR 1 [(0, .slice c b.length d), (5, .slice c b.length d), (6, iv (b.length : Int)), (7, iv f), (8, .bool (decide (f < (b.length : Int))))] m (W_nil (N_then (G_seq ?_))))))
  rcases gx_bif hm with ⟨n, hm⟩ | ⟨n, hm⟩
  ·refine gT n (G_skip (N_then (G_seq (G_block (G_seq (G_region (wR 1 [(0, .slice c b.length d), (5, .slice c b.length d), (6, iv (b.length : Int)), (7, iv f), (9, iv f)] m ?_)))))))
   obtain ⟨g, z, hm⟩ := gx_bind hm
   refine wV (elemP c (f.toNat * 4)) m (eI (j.mem0 k) rfl z) (wV (.agg #[iv g.Tick, iv g.Guest, .string g.Kind, iv g.Value]) m (eE true 4 0 (f.toNat * 4) (j.mem0 k) z) (wN (.cells ⟨[iv 0, iv 0, .string ByteArray.empty, iv 0]⟩ 26 (0, 0)) k ?_))
   intro h S C
   refine wR 1 [(0, .slice c b.length d), (3, iv f), (4, pB h 0), (5, .slice c b.length d), (6, iv (b.length : Int)), (7, iv f), (11, .agg #[iv g.Tick, iv g.Guest, .string g.Kind, iv g.Value])] S (wS true 4 0 (.agg #[iv g.Tick, iv g.Guest, .string g.Kind, iv g.Value]) 0 [iv g.Tick, iv g.Guest, .string g.Kind, iv g.Value] C rfl ?_)
   intro X D
   refine W_nil (N_then (G_seq ?_))
   obtain ⟨Q, N, L⟩ := gx_bind hm
   refine G_meet (fun a w' => Mem [] w w' [] ∧ Sat Try.f20.ntmps [(0, .slice c b.length d), (5, .slice c b.length d), (6, iv (b.length : Int)), (7, iv f), (29, .bool Q)] a) ?_ ?_
   ·have hm := N
    refine G_quiet (by kernel_rfl) (by kernel_rfl) D (zV (.agg #[iv g.Tick, iv g.Guest, .string g.Kind, iv g.Value]) (fun w_ M_ => (eL true 4 0 (M_.blk 0 rfl))) ?_)
    obtain ⟨l, O, hm⟩ := gx_bind hm
    refine Z_call 16 #[.agg #[iv g.Tick, iv g.Guest, .string g.Kind, iv g.Value]] (.bool l) (by kernel_rfl) (fun w_ => by kernel_rfl) (fun w_ M_ => (c_i_IsEvent w_ g O).mono fun e w2_ h_ => ⟨h_.1, M_.call0 h_.2⟩) (zR [.bool (!l), .bool (!l)] [(0, .slice c b.length d), (3, iv f), (4, pB h 0), (5, .slice c b.length d), (6, iv (b.length : Int)), (7, iv f), (15, .bool (!l))] ?_)
    rcases gx_bif hm with ⟨o, hm⟩ | ⟨o, hm⟩
    ·refine zK 15 true o (zR [undef, undef, undef, undef, undef, undef, undef, undef, undef, undef, undef, undef, undef, .bool true] [(0, .slice c b.length d), (5, .slice c b.length d), (6, iv (b.length : Int)), (7, iv f), (29, .bool true)] (Z_end fun Y E => ?_))
     obtain rfl := Option.some.inj hm
     exact N_meet fun a ha => ⟨E.pk [], ha.s⟩
    refine zK 15 false o (zR [iv f, .bool (decide (f > 0)), .bool (decide (f > 0))] [(0, .slice c b.length d), (3, iv f), (4, pB h 0), (5, .slice c b.length d), (6, iv (b.length : Int)), (7, iv f), (15, .bool false), (18, .bool (decide (f > 0)))] ?_)
    rcases gx_bif hm with ⟨q, hm⟩ | ⟨q, hm⟩
    ·refine zK 18 true q (zR [.slice c b.length d, iv f, iv (w64 (f - 1))] [(0, .slice c b.length d), (4, pB h 0), (5, .slice c b.length d), (6, iv (b.length : Int)), (7, iv f), (15, .bool false), (18, .bool true), (19, .slice c b.length d), (21, iv (w64 (f - 1)))] ?_)
     obtain ⟨i, u, hm⟩ := gx_bind hm
     refine zV (elemP c ((w64 (f - 1)).toNat * 4)) (fun w_ M_ => (eI (j.mem0 M_) rfl u)) (zV (elemP c ((w64 (f - 1)).toNat * 4 + 0)) (fun w_ M_ => (eF 0 ((w64 (f - 1)).toNat * 4) 0 (j.mem0 M_) u)) (zV (iv i.Tick) (fun w_ M_ => (eE false 1 0 ((w64 (f - 1)).toNat * 4 + 0) (j.mem0 M_) u)) (zR [pB h 0] [(0, .slice c b.length d), (5, .slice c b.length d), (6, iv (b.length : Int)), (7, iv f), (15, .bool false), (18, .bool true), (24, iv i.Tick), (25, pB h 0)] (zV (iv g.Tick) (fun w_ M_ => (eL false 1 0 (M_.blk 0 rfl))) (zR [.bool (decide (i.Tick > g.Tick)), .bool (decide (i.Tick > g.Tick)), .bool (decide (i.Tick > g.Tick))] [(0, .slice c b.length d), (5, .slice c b.length d), (6, iv (b.length : Int)), (7, iv f), (29, .bool (decide (i.Tick > g.Tick)))] (Z_end fun Z F => ?_))))))
     obtain rfl := Option.some.inj hm
     exact N_meet fun a ha => ⟨F.pk [], ha.s⟩
    refine zK 18 false q (zR [undef, undef, undef, undef, undef, undef, undef, undef, undef, .bool false, .bool false] [(0, .slice c b.length d), (5, .slice c b.length d), (6, iv (b.length : Int)), (7, iv f), (29, .bool false)] (Z_end fun aa G => ?_))
    obtain rfl := Option.some.inj hm
    exact N_meet fun a ha => ⟨G.pk [], ha.s⟩
   intro V B ⟨v, J⟩
   refine N_use J ?_
   have hm := L
   refine N_then ?_
   rcases gx_bif hm with ⟨t, hm⟩ | ⟨t, hm⟩
   ·refine gT t (G_seq (G_region (wR 1 [(2, .bool false)] B (W_nil (N_then (G_ret (N_block_ret (N_then_ret (N_then_ret ?_)))))))))
    obtain rfl := Option.some.inj hm
    obtain rfl := y _ rfl
    have hm := x; simp only [Sum.elim_inr] at hm
    refine N_block_ret (N_meet_ret (N_then_ret ?_))
    obtain rfl := Option.some.inj hm
    exact N_ret [.bool false] (rC RVs_nil) (⟨rfl, v.pk []⟩)
   refine gF t (G_skip (N_block (N_then (G_region (wR 2 [(0, .slice c b.length d), (5, .slice c b.length d), (6, iv (b.length : Int)), (7, iv (w64 (f + 1)))] B (W_nil ?_))))))
   obtain rfl := Option.some.inj hm
   exact N_loop fun a ha => ⟨_, rfl, v.pk [], ha.s⟩
  refine gF n (G_exit (N_then_exit (N_then_exit (N_block_eq ?_))))
  obtain rfl := Option.some.inj hm
  obtain rfl := y _ rfl
  exact N_meet fun a ha => ⟨_, rfl, k.pk [], ha.s⟩
 intro W T ⟨A, hout_, H, K⟩
 refine N_use K ?_
 subst hout_
 have hm := x; simp only [Sum.elim_inl] at hm
 refine N_then (G_seq (G_region (wR 4 [(2, .bool (decide ((b.length : Int) ≤ 30)))] T (W_nil (N_then (G_ret ?_))))))
 obtain rfl := Option.some.inj hm
 exact N_ret [.bool (decide ((b.length : Int) ≤ 30))] (rC RVs_nil) (⟨rfl, H.pk []⟩)
theorem c_l_eqEvent (w : World) (b : Event) (c : Event) {r : Bool} (hm : M.l_eqEvent b c = some r) :
  Calls Try.prog 57 #[.agg #[iv b.Tick, iv b.Guest, .string b.Kind, iv b.Value], .agg #[iv c.Tick, iv c.Guest, .string c.Kind, iv c.Value]] w fun e w' => e = .returned (.bool r) ∧ Mem [] w w' [] := by
 unfold M.l_eqEvent at hm
 refine cE Try.func57 ?_
 have M0 := Mem.refl [] w
 refine G_seq (G_region (wN (.cells ⟨[iv b.Tick, iv b.Guest, .string b.Kind, iv b.Value]⟩ 26 (0, 0)) M0 ?_))
 intro f m l
 refine wN (.cells ⟨[iv c.Tick, iv c.Guest, .string c.Kind, iv c.Value]⟩ 26 (0, 0)) l ?_
 intro d a g
 refine wR 1 [(2, pB f 0), (3, pB d 0)] a (W_nil (N_then (G_seq (G_seq (G_region (wR 1 [(2, pB f 0), (3, pB d 0), (5, pB f 0)] a (wV (iv b.Tick) a (eL false 1 0 (g.blk 0 rfl)) (wR 1 [(2, pB f 0), (3, pB d 0), (6, iv b.Tick), (7, pB d 0)] a (wV (iv c.Tick) a (eL false 1 0 (g.blk 1 rfl)) (wR 1 [(2, pB f 0), (3, pB d 0), (9, .bool (b.Tick != c.Tick))] a (W_nil (N_then ?_))))))))))))
 rcases gx_bif hm with ⟨h, hm⟩ | ⟨h, hm⟩
 ·refine gT h (G_seq (G_region (wR 1 [(4, .bool false)] a (W_nil (N_then (G_ret (N_then_ret ?_)))))))
  obtain rfl := Option.some.inj hm
  exact N_ret [.bool false] (rC RVs_nil) (⟨rfl, g.pk []⟩)
 refine gF h (G_skip (N_then (G_seq (G_seq (G_region (wR 1 [(2, pB f 0), (3, pB d 0), (10, pB f 1)] a (wV (iv b.Guest) a (eL false 1 1 (g.blk 0 rfl)) (wR 1 [(2, pB f 0), (3, pB d 0), (11, iv b.Guest), (12, pB d 1)] a (wV (iv c.Guest) a (eL false 1 1 (g.blk 1 rfl)) (wR 1 [(2, pB f 0), (3, pB d 0), (14, .bool (b.Guest != c.Guest))] a (W_nil (N_then ?_))))))))))))
 rcases gx_bif hm with ⟨i, hm⟩ | ⟨i, hm⟩
 ·refine gT i (G_seq (G_region (wR 1 [(4, .bool false)] a (W_nil (N_then (G_ret (N_then_ret ?_)))))))
  obtain rfl := Option.some.inj hm
  exact N_ret [.bool false] (rC RVs_nil) (⟨rfl, g.pk []⟩)
 refine gF i (G_skip (N_then (G_seq (G_seq (G_region (wR 1 [(2, pB f 0), (3, pB d 0), (15, pB f 2)] a (wV (.string b.Kind) a (eL false 1 2 (g.blk 0 rfl)) (wR 1 [(2, pB f 0), (3, pB d 0), (16, .string b.Kind), (17, pB d 2)] a (wV (.string c.Kind) a (eL false 1 2 (g.blk 1 rfl)) (wR 1 [(2, pB f 0), (3, pB d 0), (19, .bool (!(b.Kind.toList == c.Kind.toList)))] a (W_nil (N_then ?_))))))))))))
 rcases gx_bif hm with ⟨j, hm⟩ | ⟨j, hm⟩
 ·refine gT j (G_seq (G_region (wR 1 [(4, .bool false)] a (W_nil (N_then (G_ret (N_then_ret ?_)))))))
  obtain rfl := Option.some.inj hm
  exact N_ret [.bool false] (rC RVs_nil) (⟨rfl, g.pk []⟩)
 refine gF j (G_skip (N_then (G_seq (G_seq (G_region (wR 1 [(3, pB d 0), (20, pB f 3)] a (wV (iv b.Value) a (eL false 1 3 (g.blk 0 rfl)) (wR 1 [(21, iv b.Value), (22, pB d 3)] a (wV (iv c.Value) a (eL false 1 3 (g.blk 1 rfl)) (wR 1 [(24, .bool (b.Value != c.Value))] a (W_nil (N_then ?_))))))))))))
 rcases gx_bif hm with ⟨k, hm⟩ | ⟨k, hm⟩
 ·refine gT k (G_seq (G_region (wR 1 [(4, .bool false)] a (W_nil (N_then (G_ret (N_then_ret ?_)))))))
  obtain rfl := Option.some.inj hm
  exact N_ret [.bool false] (rC RVs_nil) (⟨rfl, g.pk []⟩)
 refine gF k (G_skip (N_then (G_seq (G_region (wR 1 [(4, .bool true)] a (W_nil (N_then (G_ret ?_))))))))
 obtain rfl := Option.some.inj hm
 exact N_ret [.bool true] (rC RVs_nil) (⟨rfl, g.pk []⟩)
theorem c_l_eqEventS (w : World) (c : List Event) (f : Option Addr) (h : Nat) (u : rdS encEvent w c f h) (d : List Event) (g : Option Addr) (i : Nat) (v : rdS encEvent w d g i) {r : Bool} (hm : M.l_eqEventS c d = some r) :
  Calls Try.prog 21 #[.slice f c.length h, .slice g d.length i] w fun e w' => e = .returned (.bool r) ∧ Mem [] w w' [] := by
 unfold M.l_eqEventS at hm
 refine cE Try.func21 ?_
 have M0 := Mem.refl [] w
 refine G_seq (G_region (wR 1 [(0, .slice f c.length h), (1, .slice g d.length i)] w (W_nil (N_then (G_seq (G_seq (G_region (wR 5 [(0, .slice f c.length h), (1, .slice g d.length i), (10, .bool ((c.length : Int) != (d.length : Int)))] w (W_nil (N_then ?_))))))))))
 rcases gx_bif hm with ⟨l, hm⟩ | ⟨l, hm⟩
 ·refine gT l (G_seq (G_region (wR 1 [(4, .bool false)] w (W_nil (N_then (G_ret (N_then_ret ?_)))))))
  obtain rfl := Option.some.inj hm
  exact N_ret [.bool false] (rC RVs_nil) (⟨rfl, M0.pk []⟩)
 refine gF l (G_skip (N_then (G_seq (G_seq (G_region (wR 1 [(0, .slice f c.length h), (1, .slice g d.length i), (5, iv 0)] w (W_nil (N_then ?_))))))))
 obtain ⟨I, H, x⟩ := gx_bind hm
 refine G_meet (fun a w' => ∃ (B : Unit), I = .inl B ∧ Mem [] w w' [] ∧ Sat Try.f21.ntmps [] a) ?_ ?_
 ·refine G_block (G_while (σ := Int) (ρ := (Unit) ⊕ (Bool)) (fun b a w' => Mem [] w w' [] ∧ Sat Try.f21.ntmps [(0, .slice f c.length h), (1, .slice g d.length i), (5, iv b)] a) H (fun a ha => ⟨M0.pk [], ha.s⟩) ?_)
  clear hm
  intro b O hm y L J ⟨q, E⟩
  refine G_use E (G_seq (G_seq (G_region (wR 4 [(0, .slice f c.length h), (1, .slice g d.length i), (5, iv b), (14, .bool (decide (b < (c.length : Int))))] J (W_nil (N_then ?_))))))
  rcases gx_bif hm with ⟨m, hm⟩ | ⟨m, hm⟩
  ·refine gT m (G_skip (N_then (G_seq (G_block (G_seq (G_quiet (by kernel_rfl) (by kernel_rfl) q (zR [.slice f c.length h, iv b] [(0, .slice f c.length h), (1, .slice g d.length i), (5, iv b), (17, .slice f c.length h), (18, iv b)] ?_)))))))
   obtain ⟨j, z, hm⟩ := gx_bind hm
   refine zV (elemP f (b.toNat * 4)) (fun w_ M_ => (eI (u.mem0 M_) rfl z)) (zV (.agg #[iv j.Tick, iv j.Guest, .string j.Kind, iv j.Value]) (fun w_ M_ => (eE true 4 0 (b.toNat * 4) (u.mem0 M_) z)) (zR [.slice g d.length i, iv b] [(0, .slice f c.length h), (1, .slice g d.length i), (5, iv b), (20, .agg #[iv j.Tick, iv j.Guest, .string j.Kind, iv j.Value]), (21, .slice g d.length i), (22, iv b)] ?_))
   obtain ⟨k, A, hm⟩ := gx_bind hm
   refine zV (elemP g (b.toNat * 4)) (fun w_ M_ => (eI (v.mem0 M_) rfl A)) (zV (.agg #[iv k.Tick, iv k.Guest, .string k.Kind, iv k.Value]) (fun w_ M_ => (eE true 4 0 (b.toNat * 4) (v.mem0 M_) A)) ?_)
   obtain ⟨o, G, hm⟩ := gx_bind hm
   refine Z_call 57 #[.agg #[iv j.Tick, iv j.Guest, .string j.Kind, iv j.Value], .agg #[iv k.Tick, iv k.Guest, .string k.Kind, iv k.Value]] (.bool o) (by kernel_rfl) (fun w_ => by kernel_rfl) (fun w_ M_ => (c_l_eqEvent w_ j k G).mono fun e w2_ h_ => ⟨h_.1, M_.call0 h_.2⟩) (zR [.bool (!o)] [(0, .slice f c.length h), (1, .slice g d.length i), (5, iv b), (26, .bool (!o))] (Z_end fun C t => (N_then ?_)))
   rcases gx_bif hm with ⟨n, hm⟩ | ⟨n, hm⟩
   ·refine gT n (G_seq (G_region (wR 1 [(4, .bool false)] C (W_nil (N_then (G_ret (N_block_ret (N_then_ret (N_then_ret ?_)))))))))
    obtain rfl := Option.some.inj hm
    obtain rfl := y _ rfl
    have hm := x; simp only [Sum.elim_inr] at hm
    refine N_block_ret (N_meet_ret (N_then_ret ?_))
    obtain rfl := Option.some.inj hm
    exact N_ret [.bool false] (rC RVs_nil) (⟨rfl, t.pk []⟩)
   refine gF n (G_skip (N_block (N_then (G_region (wR 3 [(0, .slice f c.length h), (1, .slice g d.length i), (5, iv (w64 (b + 1)))] C (W_nil ?_))))))
   obtain rfl := Option.some.inj hm
   exact N_loop fun a ha => ⟨_, rfl, t.pk [], ha.s⟩
  refine gF m (G_exit (N_then_exit (N_then_exit (N_block_eq ?_))))
  obtain rfl := Option.some.inj hm
  obtain rfl := y _ rfl
  exact N_meet fun a ha => ⟨_, rfl, q.pk [], ha.s⟩
 intro N K ⟨B, hout_, D, F⟩
 refine N_use F ?_
 subst hout_
 have hm := x; simp only [Sum.elim_inl] at hm
 refine N_then (G_seq (G_region (wR 1 [(4, .bool true)] K (W_nil (N_then (G_ret ?_))))))
 obtain rfl := Option.some.inj hm
 exact N_ret [.bool true] (rC RVs_nil) (⟨rfl, D.pk []⟩)
theorem c_l_FnExactIsRecord (w : World) (a : List Event) (c : Option Addr) (b : Nat) (k : rdS encEvent w a c b) {r : Bool} (hm : M.l_FnExactIsRecord a = some r) :
  Calls Try.prog 4 #[.slice c a.length b] w fun e w' => e = .returned (.bool r) ∧ Mem [] w w' [] := by
 unfold M.l_FnExactIsRecord at hm
 refine cE Try.func4 ?_
 have M0 := Mem.refl [] w
 refine G_seq (G_region (wR 1 [(0, .slice c a.length b)] w (W_nil (N_then (G_seq (G_region (wR 1 [(0, .slice c a.length b), (3, iv 1048576)] w (W_nil (N_then (G_seq (G_region (wR 2 [(0, .slice c a.length b), (3, iv 1048576), (7, .slice c a.length b), (8, iv 1048576)] w ?_))))))))))))
 obtain ⟨G, U, hm⟩ := gx_bind hm
 refine wC 17 #[.slice c a.length b, iv 1048576] ((c_l_szEventS w a c b (k.mem0 M0) 1048576 U).mono ?_)
 rintro e_ i ⟨rfl, K⟩
 have l := M0.call0 K
 refine ⟨_, rfl, ?_⟩
 refine wR 1 [(0, .slice c a.length b), (3, iv G)] i (W_nil (N_then (G_seq (G_seq (G_region (wR 2 [(0, .slice c a.length b), (11, .bool (decide (G < 0)))] i (W_nil (N_then ?_))))))))
 rcases gx_bif hm with ⟨o, hm⟩ | ⟨o, hm⟩
 ·refine gT o (G_seq (G_region (wR 1 [(2, .bool true)] i (W_nil (N_then (G_ret (N_then_ret ?_)))))))
  obtain rfl := Option.some.inj hm
  exact N_ret [.bool true] (rC RVs_nil) (⟨rfl, l.pk []⟩)
 refine gF o (G_skip (N_then (G_seq (G_region (wR 1 [(0, .slice c a.length b), (12, .slice c a.length b)] i ?_)))))
 obtain ⟨H, V, hm⟩ := gx_bind hm
 refine wC 19 #[.slice c a.length b] ((c_l_toEventS i a c b (k.mem0 l) V).mono ?_)
 rintro e_ ac ⟨E, B, ae, rfl, S, L⟩
 have x := l.call L
 refine ⟨_, rfl, ?_⟩
 obtain ⟨h, W, hm⟩ := gx_bind hm
 refine wC 18 #[.slice E H.length B] ((c_s_IsRecord ac H E B (S.rd x 0 (by kernel_rfl)) W).mono ?_)
 rintro e_ w645 ⟨rfl, N⟩
 have y := x.call0 N
 refine ⟨_, rfl, ?_⟩
 refine wR 1 [(0, .slice c a.length b), (4, .bool h)] w645 (W_nil (N_then (G_seq (G_region (wR 1 [(0, .slice c a.length b), (4, .bool h), (15, .slice c a.length b)] w645 ?_)))))
 obtain ⟨g, X, hm⟩ := gx_bind hm
 refine wC 19 #[.slice c a.length b] ((c_l_toEventS w645 a c b (k.mem0 y) X).mono ?_)
 rintro e_ u ⟨f, d, af, rfl, D, O⟩
 have z := y.call O
 refine ⟨_, rfl, ?_⟩
 refine wR 1 [(0, .slice c a.length b), (4, .bool h), (5, .slice f g.length d)] u (W_nil (N_then (G_seq (G_region (wR 1 [(0, .slice c a.length b), (4, .bool h), (5, .slice f g.length d), (17, .slice f g.length d)] u ?_)))))
 obtain ⟨I, Y, hm⟩ := gx_bind hm
 refine wC 20 #[.slice f g.length d] ((c_i_IsRecord u g f d (D.rd z 1 (by kernel_rfl)) Y).mono ?_)
 rintro e_ j ⟨rfl, P⟩
 have m := z.call0 P
 refine ⟨_, rfl, ?_⟩
 refine wR 1 [(0, .slice c a.length b), (4, .bool h), (5, .slice f g.length d), (6, .bool I)] j (W_nil (N_then (G_seq (G_seq (G_region (wR 3 [(0, .slice c a.length b), (5, .slice f g.length d), (21, .bool (!(I == h)))] j (W_nil (N_then ?_))))))))
 rcases gx_bif hm with ⟨q, hm⟩ | ⟨q, hm⟩
 ·refine gT q (G_seq (G_region (wR 1 [(2, .bool false)] j (W_nil (N_then (G_ret (N_then_ret ?_)))))))
  obtain rfl := Option.some.inj hm
  exact N_ret [.bool false] (rC RVs_nil) (⟨rfl, m.pk []⟩)
 refine gF q (G_skip (N_then (G_seq (G_seq (G_region (wR 2 [(22, .slice f g.length d), (23, .slice c a.length b)] j ?_))))))
 obtain ⟨J, Z, hm⟩ := gx_bind hm
 refine wC 19 #[.slice c a.length b] ((c_l_toEventS j a c b (k.mem0 m) Z).mono ?_)
 rintro e_ ad ⟨F, C, ag, rfl, T, Q⟩
 have n := m.call Q
 refine ⟨_, rfl, ?_⟩
 obtain ⟨ab, aa, hm⟩ := gx_bind hm
 refine wC 21 #[.slice f g.length d, .slice F J.length C] ((c_l_eqEventS ad g f d (D.rd n 1 (by kernel_rfl)) J F C (T.rd n 2 (by kernel_rfl)) aa).mono ?_)
 rintro e_ v ⟨rfl, R⟩
 have A := n.call0 R
 refine ⟨_, rfl, ?_⟩
 refine wR 1 [(26, .bool (!ab))] v (W_nil (N_then ?_))
 rcases gx_bif hm with ⟨t, hm⟩ | ⟨t, hm⟩
 ·refine gT t (G_seq (G_region (wR 1 [(2, .bool false)] v (W_nil (N_then (G_ret (N_then_ret ?_)))))))
  obtain rfl := Option.some.inj hm
  exact N_ret [.bool false] (rC RVs_nil) (⟨rfl, A.pk []⟩)
 refine gF t (G_skip (N_then (G_seq (G_region (wR 1 [(2, .bool true)] v (W_nil (N_then (G_ret ?_))))))))
 obtain rfl := Option.some.inj hm
 exact N_ret [.bool true] (rC RVs_nil) (⟨rfl, A.pk []⟩)
theorem c_s_LongestGap (w : World) (d : List Event) (c : Option Addr) (f : Nat) (i : rdS encEvent w d c f) {r : Int × Int × Bool} (hm : M.s_LongestGap d = some r) :
  Calls Try.prog 22 #[.slice c d.length f] w fun e w' => e = .returned (.tuple #[iv r.1, iv r.2.1, .bool r.2.2]) ∧ Mem [] w w' [] := by
 unfold M.s_LongestGap at hm
 refine cE Try.func22 ?_
 have M0 := Mem.refl [] w
 refine G_seq (G_region (wR 3 [(0, .slice c d.length f)] w (W_nil (N_then (G_seq (G_seq ?_))))))
 obtain ⟨S, N, J⟩ := gx_bind hm
 refine G_meet (fun a w' => Mem [] w w' [] ∧ Sat Try.f22.ntmps [(0, .slice c d.length f), (16, .bool S)] a) ?_ ?_
 ·have hm := N
  refine G_region (wR 1 [(0, .slice c d.length f), (9, .slice c d.length f)] w ?_)
  obtain ⟨T, Q, hm⟩ := gx_bind hm
  refine wC 56 #[.slice c d.length f] ((c_s_l22Good w d c f (i.mem0 M0) Q).mono ?_)
  rintro e_ u ⟨rfl, C⟩
  have y := M0.call0 C
  refine ⟨_, rfl, ?_⟩
  refine wR 2 [(0, .slice c d.length f), (12, .bool (!T))] u ?_
  rcases gx_bif hm with ⟨l, hm⟩ | ⟨l, hm⟩
  ·refine wK 12 true l (wR 4 [(0, .slice c d.length f), (16, .bool true)] u (W_nil ?_))
   obtain rfl := Option.some.inj hm
   exact N_meet fun a ha => ⟨y.pk [], ha.s⟩
  refine wK 12 false l (wR 4 [(0, .slice c d.length f), (16, .bool (decide ((d.length : Int) < 2)))] u (W_nil ?_))
  obtain rfl := Option.some.inj hm
  exact N_meet fun a ha => ⟨y.pk [], ha.s⟩
 intro X v ⟨z, F⟩
 refine N_use F ?_
 have hm := J
 refine N_then ?_
 rcases gx_bif hm with ⟨m, hm⟩ | ⟨m, hm⟩
 ·refine gT m (G_seq (G_region (wR 3 [(2, iv 0), (3, iv 0), (4, .bool false)] v (W_nil (N_then (G_ret (N_then_ret ?_)))))))
  obtain rfl := Option.some.inj hm
  exact N_ret [iv 0, iv 0, .bool false] (rC (rC (rC RVs_nil))) (⟨rfl, z.pk []⟩)
 refine gF m (G_skip (N_then (G_seq (G_region (wR 2 [(0, .slice c d.length f), (5, iv (-1)), (6, iv 0)] v (W_nil (N_then (G_seq (G_seq (G_region (wR 1 [(0, .slice c d.length f), (5, iv (-1)), (6, iv 0), (7, iv 1)] v (W_nil (N_then ?_)))))))))))))
 obtain ⟨j, R, L⟩ := gx_bind hm
 refine G_meet (fun a w' => Mem [] w w' [] ∧ Sat Try.f22.ntmps [(5, iv j.1), (6, iv j.2)] a) ?_ ?_
 ·refine G_block (G_while (σ := Int × Int × Int) (ρ := Int × Int) (fun b a w' => Mem [] w w' [] ∧ Sat Try.f22.ntmps [(0, .slice c d.length f), (5, iv b.1), (6, iv b.2.1), (7, iv b.2.2)] a) R (fun a ha => ⟨z.pk [], ha.s⟩) ?_)
  clear hm
  intro b ab hm P Y U ⟨A, G⟩
  refine G_use G (G_seq (G_seq (G_region (wR 4 [(0, .slice c d.length f), (5, iv b.1), (6, iv b.2.1), (7, iv b.2.2), (20, .bool (decide (b.2.2 < (d.length : Int))))] U (W_nil (N_then ?_))))))
  rcases gx_bif hm with ⟨n, hm⟩ | ⟨n, hm⟩
  ·refine gT n (G_skip (N_then (G_seq (G_block (G_seq (G_quiet (by kernel_rfl) (by kernel_rfl) A (zR [.slice c d.length f, iv b.2.2] [(0, .slice c d.length f), (5, iv b.1), (6, iv b.2.1), (7, iv b.2.2), (23, .slice c d.length f), (24, iv b.2.2)] ?_)))))))
   obtain ⟨g, q, hm⟩ := gx_bind hm
   refine zV (elemP c (b.2.2.toNat * 4)) (fun w_ M_ => (eI (i.mem0 M_) rfl q)) (zV (elemP c (b.2.2.toNat * 4 + 0)) (fun w_ M_ => (eF 0 (b.2.2.toNat * 4) 0 (i.mem0 M_) q)) (zV (iv g.Tick) (fun w_ M_ => (eE false 1 0 (b.2.2.toNat * 4 + 0) (i.mem0 M_) q)) (zR [.slice c d.length f, iv b.2.2, iv (w64 (b.2.2 - 1))] [(0, .slice c d.length f), (5, iv b.1), (6, iv b.2.1), (7, iv b.2.2), (27, iv g.Tick), (28, .slice c d.length f), (30, iv (w64 (b.2.2 - 1)))] ?_)))
   obtain ⟨h, t, hm⟩ := gx_bind hm
   refine zV (elemP c ((w64 (b.2.2 - 1)).toNat * 4)) (fun w_ M_ => (eI (i.mem0 M_) rfl t)) (zV (elemP c ((w64 (b.2.2 - 1)).toNat * 4 + 0)) (fun w_ M_ => (eF 0 ((w64 (b.2.2 - 1)).toNat * 4) 0 (i.mem0 M_) t)) (zV (iv h.Tick) (fun w_ M_ => (eE false 1 0 ((w64 (b.2.2 - 1)).toNat * 4 + 0) (i.mem0 M_) t)) (zR [iv (w64 (g.Tick - h.Tick)), iv (w64 (g.Tick - h.Tick))] [(0, .slice c d.length f), (5, iv b.1), (6, iv b.2.1), (7, iv b.2.2), (8, iv (w64 (g.Tick - h.Tick)))] (Z_end fun x B => (N_then (G_seq (G_region (wR 3 [(0, .slice c d.length f), (5, iv b.1), (6, iv b.2.1), (7, iv b.2.2), (8, iv (w64 (g.Tick - h.Tick))), (37, .bool (decide ((w64 (g.Tick - h.Tick)) > b.1)))] x (W_nil (N_then ?_))))))))))
   obtain ⟨k, O, K⟩ := gx_bind hm
   refine G_meet (fun a w' => Mem [] w w' [] ∧ Sat Try.f22.ntmps [(0, .slice c d.length f), (5, iv k.1), (6, iv k.2), (7, iv b.2.2)] a) ?_ ?_
   ·have hm := O
    rcases gx_bif hm with ⟨o, hm⟩ | ⟨o, hm⟩
    ·refine gT o (G_seq (G_region (wR 2 [(0, .slice c d.length f), (5, iv (w64 (g.Tick - h.Tick))), (7, iv b.2.2)] x (W_nil (N_then (G_region (wR 2 [(0, .slice c d.length f), (5, iv (w64 (g.Tick - h.Tick))), (6, iv b.2.2), (7, iv b.2.2)] x (W_nil ?_))))))))
     obtain rfl := Option.some.inj hm
     exact N_meet fun a ha => ⟨B.pk [], ha.s⟩
    refine gF o (G_skip ?_)
    obtain rfl := Option.some.inj hm
    exact N_meet fun a ha => ⟨B.pk [], ha.s⟩
   intro Z V ⟨D, H⟩
   refine N_use H ?_
   have hm := K
   refine N_block (N_then (G_region (wR 3 [(0, .slice c d.length f), (5, iv k.1), (6, iv k.2), (7, iv (w64 (b.2.2 + 1)))] V (W_nil ?_))))
   obtain rfl := Option.some.inj hm
   exact N_loop fun a ha => ⟨_, rfl, D.pk [], ha.s⟩
  refine gF n (G_exit (N_then_exit (N_then_exit (N_block_eq ?_))))
  obtain rfl := Option.some.inj hm
  obtain rfl := P _ rfl
  exact N_meet fun a ha => ⟨A.pk [], ha.s⟩
 intro aa W ⟨E, I⟩
 refine N_use I ?_
 have hm := L
 refine N_then (G_seq (G_region (wR 5 [(2, iv j.1), (3, iv j.2), (4, .bool true)] W (W_nil (N_then (G_ret ?_))))))
 obtain rfl := Option.some.inj hm
 exact N_ret [iv j.1, iv j.2, .bool true] (rC (rC (rC RVs_nil))) (⟨rfl, E.pk []⟩)
theorem c_i_LongestGap (w : World) (d : List Event) (c : Option Addr) (f : Nat) (h : rdS encEvent w d c f) {r : Int × Int × Bool} (hm : M.i_LongestGap d = some r) :
  Calls Try.prog 23 #[.slice c d.length f] w fun e w' => e = .returned (.tuple #[iv r.1, iv r.2.1, .bool r.2.2]) ∧ Mem [] w w' [] := by
 unfold M.i_LongestGap at hm
 refine cE Try.func23 ?_
 have M0 := Mem.refl [] w
 refine G_seq (G_region (wR 3 [(0, .slice c d.length f)] w (W_nil (N_then (G_seq (G_seq ?_))))))
 obtain ⟨S, N, J⟩ := gx_bind hm
 refine G_meet (fun a w' => Mem [] w w' [] ∧ Sat Try.f23.ntmps [(0, .slice c d.length f), (16, .bool S)] a) ?_ ?_
 ·have hm := N
  refine G_region (wR 1 [(0, .slice c d.length f), (9, .slice c d.length f)] w ?_)
  obtain ⟨T, Q, hm⟩ := gx_bind hm
  refine wC 20 #[.slice c d.length f] ((c_i_IsRecord w d c f (h.mem0 M0) Q).mono ?_)
  rintro e_ u ⟨rfl, C⟩
  have x := M0.call0 C
  refine ⟨_, rfl, ?_⟩
  refine wR 2 [(0, .slice c d.length f), (12, .bool (!T))] u ?_
  rcases gx_bif hm with ⟨l, hm⟩ | ⟨l, hm⟩
  ·refine wK 12 true l (wR 4 [(0, .slice c d.length f), (16, .bool true)] u (W_nil ?_))
   obtain rfl := Option.some.inj hm
   exact N_meet fun a ha => ⟨x.pk [], ha.s⟩
  refine wK 12 false l (wR 4 [(0, .slice c d.length f), (16, .bool (decide ((d.length : Int) < 2)))] u (W_nil ?_))
  obtain rfl := Option.some.inj hm
  exact N_meet fun a ha => ⟨x.pk [], ha.s⟩
 intro X v ⟨y, F⟩
 refine N_use F ?_
 have hm := J
 refine N_then ?_
 rcases gx_bif hm with ⟨m, hm⟩ | ⟨m, hm⟩
 ·refine gT m (G_seq (G_region (wR 3 [(2, iv 0), (3, iv 0), (4, .bool false)] v (W_nil (N_then (G_ret (N_then_ret ?_)))))))
  obtain rfl := Option.some.inj hm
  exact N_ret [iv 0, iv 0, .bool false] (rC (rC (rC RVs_nil))) (⟨rfl, y.pk []⟩)
 refine gF m (G_skip (N_then (G_seq (G_region (wR 2 [(0, .slice c d.length f), (5, iv (-1)), (6, iv 0)] v (W_nil (N_then (G_seq (G_seq (G_region (wR 1 [(0, .slice c d.length f), (5, iv (-1)), (6, iv 0), (7, iv 1)] v (W_nil (N_then ?_)))))))))))))
 obtain ⟨j, R, L⟩ := gx_bind hm
 refine G_meet (fun a w' => Mem [] w w' [] ∧ Sat Try.f23.ntmps [(5, iv j.1), (6, iv j.2)] a) ?_ ?_
 ·refine G_block (G_while (σ := Int × Int × Int) (ρ := Int × Int) (fun b a w' => Mem [] w w' [] ∧ Sat Try.f23.ntmps [(0, .slice c d.length f), (5, iv b.1), (6, iv b.2.1), (7, iv b.2.2)] a) R (fun a ha => ⟨y.pk [], ha.s⟩) ?_)
  clear hm
  intro b ab hm P Y U ⟨z, G⟩
  refine G_use G (G_seq (G_seq (G_region (wR 4 [(0, .slice c d.length f), (5, iv b.1), (6, iv b.2.1), (7, iv b.2.2), (20, .bool (decide (b.2.2 < (d.length : Int))))] U (W_nil (N_then ?_))))))
  rcases gx_bif hm with ⟨n, hm⟩ | ⟨n, hm⟩
  ·refine gT n (G_skip (N_then (G_seq (G_block (G_seq (G_quiet (by kernel_rfl) (by kernel_rfl) z (zR [.slice c d.length f, iv b.2.2] [(0, .slice c d.length f), (5, iv b.1), (6, iv b.2.1), (7, iv b.2.2), (23, .slice c d.length f), (24, iv b.2.2)] ?_)))))))
   obtain ⟨g, q, hm⟩ := gx_bind hm
   refine zV (elemP c (b.2.2.toNat * 4)) (fun w_ M_ => (eI (h.mem0 M_) rfl q)) (zV (elemP c (b.2.2.toNat * 4 + 0)) (fun w_ M_ => (eF 0 (b.2.2.toNat * 4) 0 (h.mem0 M_) q)) (zV (iv g.Tick) (fun w_ M_ => (eE false 1 0 (b.2.2.toNat * 4 + 0) (h.mem0 M_) q)) (zR [.slice c d.length f, iv b.2.2, iv (w64 (b.2.2 - 1))] [(0, .slice c d.length f), (5, iv b.1), (6, iv b.2.1), (7, iv b.2.2), (27, iv g.Tick), (28, .slice c d.length f), (30, iv (w64 (b.2.2 - 1)))] ?_)))
   obtain ⟨i, t, hm⟩ := gx_bind hm
   refine zV (elemP c ((w64 (b.2.2 - 1)).toNat * 4)) (fun w_ M_ => (eI (h.mem0 M_) rfl t)) (zV (elemP c ((w64 (b.2.2 - 1)).toNat * 4 + 0)) (fun w_ M_ => (eF 0 ((w64 (b.2.2 - 1)).toNat * 4) 0 (h.mem0 M_) t)) (zV (iv i.Tick) (fun w_ M_ => (eE false 1 0 ((w64 (b.2.2 - 1)).toNat * 4 + 0) (h.mem0 M_) t)) (zR [iv (w64 (g.Tick - i.Tick)), iv (w64 (g.Tick - i.Tick))] [(0, .slice c d.length f), (5, iv b.1), (6, iv b.2.1), (7, iv b.2.2), (8, iv (w64 (g.Tick - i.Tick)))] (Z_end fun B A => (N_then (G_seq (G_region (wR 3 [(0, .slice c d.length f), (5, iv b.1), (6, iv b.2.1), (7, iv b.2.2), (8, iv (w64 (g.Tick - i.Tick))), (37, .bool (decide ((w64 (g.Tick - i.Tick)) > b.1)))] B (W_nil (N_then ?_))))))))))
   obtain ⟨k, O, K⟩ := gx_bind hm
   refine G_meet (fun a w' => Mem [] w w' [] ∧ Sat Try.f23.ntmps [(0, .slice c d.length f), (5, iv k.1), (6, iv k.2), (7, iv b.2.2)] a) ?_ ?_
   ·have hm := O
    rcases gx_bif hm with ⟨o, hm⟩ | ⟨o, hm⟩
    ·refine gT o (G_region (wR 4 [(0, .slice c d.length f), (5, iv (w64 (g.Tick - i.Tick))), (6, iv b.2.2), (7, iv b.2.2)] B (W_nil ?_)))
     obtain rfl := Option.some.inj hm
     exact N_meet fun a ha => ⟨A.pk [], ha.s⟩
    refine gF o (G_skip ?_)
    obtain rfl := Option.some.inj hm
    exact N_meet fun a ha => ⟨A.pk [], ha.s⟩
   intro Z V ⟨D, H⟩
   refine N_use H ?_
   have hm := K
   refine N_block (N_then (G_region (wR 3 [(0, .slice c d.length f), (5, iv k.1), (6, iv k.2), (7, iv (w64 (b.2.2 + 1)))] V (W_nil ?_))))
   obtain rfl := Option.some.inj hm
   exact N_loop fun a ha => ⟨_, rfl, D.pk [], ha.s⟩
  refine gF n (G_exit (N_then_exit (N_then_exit (N_block_eq ?_))))
  obtain rfl := Option.some.inj hm
  obtain rfl := P _ rfl
  exact N_meet fun a ha => ⟨z.pk [], ha.s⟩
 intro aa W ⟨E, I⟩
 refine N_use I ?_
 have hm := L
 refine N_then (G_seq (G_region (wR 5 [(2, iv j.1), (3, iv j.2), (4, .bool true)] W (W_nil (N_then (G_ret ?_))))))
 obtain rfl := Option.some.inj hm
 exact N_ret [iv j.1, iv j.2, .bool true] (rC (rC (rC RVs_nil))) (⟨rfl, E.pk []⟩)
theorem c_l_FnExactLongestGap (w : World) (b : List Event) (d : Option Addr) (c : Nat) (m : rdS encEvent w b d c) {r : Bool} (hm : M.l_FnExactLongestGap b = some r) :
  Calls Try.prog 5 #[.slice d b.length c] w fun e w' => e = .returned (.bool r) ∧ Mem [] w w' [] := by
 unfold M.l_FnExactLongestGap at hm
 refine cE Try.func5 ?_
 have M0 := Mem.refl [] w
 refine G_seq (G_region (wR 1 [(0, .slice d b.length c)] w (W_nil (N_then (G_seq (G_region (wR 1 [(0, .slice d b.length c), (3, iv 1048576)] w (W_nil (N_then (G_seq (G_region (wR 2 [(0, .slice d b.length c), (3, iv 1048576), (11, .slice d b.length c), (12, iv 1048576)] w ?_))))))))))))
 obtain ⟨P, ag, hm⟩ := gx_bind hm
 refine wC 17 #[.slice d b.length c, iv 1048576] ((c_l_szEventS w b d c (m.mem0 M0) 1048576 ag).mono ?_)
 rintro e_ l ⟨rfl, V⟩
 have t := M0.call0 V
 refine ⟨_, rfl, ?_⟩
 refine wR 1 [(0, .slice d b.length c), (3, iv P)] l (W_nil (N_then (G_seq (G_seq (G_region (wR 2 [(0, .slice d b.length c), (15, .bool (decide (P < 0)))] l (W_nil (N_then ?_))))))))
 rcases gx_bif hm with ⟨z, hm⟩ | ⟨z, hm⟩
 ·refine gT z (G_seq (G_region (wR 1 [(2, .bool true)] l (W_nil (N_then (G_ret (N_then_ret ?_)))))))
  obtain rfl := Option.some.inj hm
  exact N_ret [.bool true] (rC RVs_nil) (⟨rfl, t.pk []⟩)
 refine gF z (G_skip (N_then (G_seq (G_region (wR 1 [(0, .slice d b.length c), (17, .slice d b.length c)] l ?_)))))
 obtain ⟨Q, ah, hm⟩ := gx_bind hm
 refine wC 19 #[.slice d b.length c] ((c_l_toEventS l b d c (m.mem0 t) ah).mono ?_)
 rintro e_ ao ⟨N, J, ar, rfl, ac, W⟩
 have G := t.call W
 refine ⟨_, rfl, ?_⟩
 obtain ⟨f, ai, hm⟩ := gx_bind hm
 refine wC 22 #[.slice N Q.length J] ((c_s_LongestGap ao Q N J (ac.rd G 0 (by kernel_rfl)) ai).mono ?_)
 rintro e_ D ⟨rfl, X⟩
 have H := G.call0 X
 refine ⟨_, rfl, ?_⟩
 refine wR 7 [(0, .slice d b.length c), (4, iv f.1), (5, iv f.2.1), (6, .bool f.2.2)] D (W_nil (N_then (G_seq (G_region (wR 1 [(0, .slice d b.length c), (4, iv f.1), (5, iv f.2.1), (6, .bool f.2.2), (23, .slice d b.length c)] D ?_)))))
 obtain ⟨i, aj, hm⟩ := gx_bind hm
 refine wC 19 #[.slice d b.length c] ((c_l_toEventS D b d c (m.mem0 H) aj).mono ?_)
 rintro e_ A ⟨h, g, am, rfl, K, R⟩
 have E := H.call R
 refine ⟨_, rfl, ?_⟩
 refine wR 1 [(0, .slice d b.length c), (4, iv f.1), (5, iv f.2.1), (6, .bool f.2.2), (7, .slice h i.length g)] A (W_nil (N_then (G_seq (G_region (wR 1 [(0, .slice d b.length c), (4, iv f.1), (5, iv f.2.1), (6, .bool f.2.2), (7, .slice h i.length g), (26, .slice h i.length g)] A ?_)))))
 obtain ⟨j, ad, hm⟩ := gx_bind hm
 refine wC 23 #[.slice h i.length g] ((c_i_LongestGap A i h g (K.rd E 1 (by kernel_rfl)) ad).mono ?_)
 rintro e_ k ⟨rfl, S⟩
 have n := E.call0 S
 refine ⟨_, rfl, ?_⟩
 refine wR 7 [(0, .slice d b.length c), (4, iv f.1), (5, iv f.2.1), (6, .bool f.2.2), (7, .slice h i.length g), (8, iv j.1), (9, iv j.2.1), (10, .bool j.2.2)] k (W_nil (N_then (G_seq (G_seq ?_))))
 obtain ⟨ak, aa, Z⟩ := gx_bind hm
 refine G_meet (fun a w' => Mem [] w w' [am] ∧ Sat Try.f5.ntmps [(0, .slice d b.length c), (7, .slice h i.length g), (43, .bool ak)] a) ?_ ?_
 ·have hm := aa
  refine G_region (wR 4 [(0, .slice d b.length c), (5, iv f.2.1), (6, .bool f.2.2), (7, .slice h i.length g), (9, iv j.2.1), (10, .bool j.2.2), (34, .bool (j.1 != f.1))] k ?_)
  rcases gx_bif hm with ⟨u, hm⟩ | ⟨u, hm⟩
  ·refine wK 34 true u (wR 9 [(0, .slice d b.length c), (7, .slice h i.length g), (43, .bool true)] k (W_nil ?_))
   obtain rfl := Option.some.inj hm
   exact N_meet fun a ha => ⟨n.pk [1], ha.s⟩
  refine wK 34 false u (wR 5 [(0, .slice d b.length c), (6, .bool f.2.2), (7, .slice h i.length g), (10, .bool j.2.2), (39, .bool (j.2.1 != f.2.1))] k ?_)
  rcases gx_bif hm with ⟨v, hm⟩ | ⟨v, hm⟩
  ·refine wK 39 true v (wR 4 [(0, .slice d b.length c), (7, .slice h i.length g), (43, .bool true)] k (W_nil ?_))
   obtain rfl := Option.some.inj hm
   exact N_meet fun a ha => ⟨n.pk [1], ha.s⟩
  refine wK 39 false v (wR 4 [(0, .slice d b.length c), (7, .slice h i.length g), (43, .bool (!(j.2.2 == f.2.2)))] k (W_nil ?_))
  obtain rfl := Option.some.inj hm
  exact N_meet fun a ha => ⟨n.pk [1], ha.s⟩
 intro ap B ⟨o, Y⟩
 refine N_use Y ?_
 have hm := Z
 refine N_then ?_
 rcases gx_bif hm with ⟨x, hm⟩ | ⟨x, hm⟩
 ·refine gT x (G_seq (G_region (wR 1 [(2, .bool false)] B (W_nil (N_then (G_ret (N_then_ret ?_)))))))
  obtain rfl := Option.some.inj hm
  exact N_ret [.bool false] (rC RVs_nil) (⟨rfl, o.pk []⟩)
 refine gF x (G_skip (N_then (G_seq (G_seq (G_region (wR 2 [(44, .slice h i.length g), (45, .slice d b.length c)] B ?_))))))
 obtain ⟨O, ae, hm⟩ := gx_bind hm
 refine wC 19 #[.slice d b.length c] ((c_l_toEventS B b d c (m.mem0 o) ae).mono ?_)
 rintro e_ an ⟨L, I, aq, rfl, ab, T⟩
 have q := o.call T
 refine ⟨_, rfl, ?_⟩
 obtain ⟨al, af, hm⟩ := gx_bind hm
 refine wC 21 #[.slice h i.length g, .slice L O.length I] ((c_l_eqEventS an i h g (K.rd q 0 (by kernel_rfl)) O L I (ab.rd q 1 (by kernel_rfl)) af).mono ?_)
 rintro e_ C ⟨rfl, U⟩
 have F := q.call0 U
 refine ⟨_, rfl, ?_⟩
 refine wR 1 [(48, .bool (!al))] C (W_nil (N_then ?_))
 rcases gx_bif hm with ⟨y, hm⟩ | ⟨y, hm⟩
 ·refine gT y (G_seq (G_region (wR 1 [(2, .bool false)] C (W_nil (N_then (G_ret (N_then_ret ?_)))))))
  obtain rfl := Option.some.inj hm
  exact N_ret [.bool false] (rC RVs_nil) (⟨rfl, F.pk []⟩)
 refine gF y (G_skip (N_then (G_seq (G_region (wR 1 [(2, .bool true)] C (W_nil (N_then (G_ret ?_))))))))
 obtain rfl := Option.some.inj hm
 exact N_ret [.bool true] (rC RVs_nil) (⟨rfl, F.pk []⟩)
theorem c_s_FirstWith (w : World) (c : List Event) (b : Option Addr) (d : Nat) (k : rdS encEvent w c b d) (h : ByteArray) (g : Int) {r : Int × Bool} (hm : M.s_FirstWith c h g = some r) :
  Calls Try.prog 24 #[.slice b c.length d, .string h, iv g] w fun e w' => e = .returned (.tuple #[iv r.1, .bool r.2]) ∧ Mem [] w w' [] := by
 unfold M.s_FirstWith at hm
 refine cE Try.func24 ?_
 have M0 := Mem.refl [] w
 refine G_seq (G_region (wR 2 [(0, .slice b c.length d), (1, .string h), (2, iv g)] w (W_nil (N_then (G_seq (G_seq ?_))))))
 obtain ⟨X, S, Q⟩ := gx_bind hm
 refine G_meet (fun a w' => Mem [] w w' [] ∧ Sat Try.f24.ntmps [(0, .slice b c.length d), (1, .string h), (2, iv g), (16, .bool X)] a) ?_ ?_
 ·have hm := S
  refine G_region (wR 1 [(0, .slice b c.length d), (1, .string h), (2, iv g), (9, .slice b c.length d)] w ?_)
  obtain ⟨aa, U, hm⟩ := gx_bind hm
  refine wC 56 #[.slice b c.length d] ((c_s_l22Good w c b d (k.mem0 M0) U).mono ?_)
  rintro e_ l ⟨rfl, H⟩
  have x := M0.call0 H
  refine ⟨_, rfl, ?_⟩
  refine wR 2 [(0, .slice b c.length d), (1, .string h), (2, iv g), (12, .bool (!aa))] l ?_
  rcases gx_bif hm with ⟨m, hm⟩ | ⟨m, hm⟩
  ·refine wK 12 true m (wR 4 [(0, .slice b c.length d), (1, .string h), (2, iv g), (16, .bool true)] l (W_nil ?_))
   obtain rfl := Option.some.inj hm
   exact N_meet fun a ha => ⟨x.pk [], ha.s⟩
  refine wK 12 false m (wR 1 [(0, .slice b c.length d), (1, .string h), (2, iv g), (12, .bool false), (13, iv g)] l ?_)
  obtain ⟨ab, V, hm⟩ := gx_bind hm
  refine wC 58 #[iv g, iv 0, iv 65535] ((c_s_l1In l g 0 65535 V).mono ?_)
  rintro e_ ac ⟨rfl, I⟩
  have J := x.call0 I
  refine ⟨_, rfl, ?_⟩
  refine wR 2 [(0, .slice b c.length d), (1, .string h), (2, iv g), (16, .bool (!ab))] ac (W_nil ?_)
  obtain rfl := Option.some.inj hm
  exact N_meet fun a ha => ⟨J.pk [], ha.s⟩
 intro ae D ⟨y, L⟩
 refine N_use L ?_
 have hm := Q
 refine N_then ?_
 rcases gx_bif hm with ⟨n, hm⟩ | ⟨n, hm⟩
 ·refine gT n (G_seq (G_region (wR 2 [(6, iv 0), (7, .bool false)] D (W_nil (N_then (G_ret (N_then_ret ?_)))))))
  obtain rfl := Option.some.inj hm
  exact N_ret [iv 0, .bool false] (rC (rC RVs_nil)) (⟨rfl, y.pk []⟩)
 refine gF n (G_skip (N_then (G_seq (G_seq (G_region (wR 1 [(0, .slice b c.length d), (1, .string h), (2, iv g), (8, iv 0)] D (W_nil (N_then ?_))))))))
 obtain ⟨Z, W, A⟩ := gx_bind hm
 refine G_meet (fun a w' => ∃ (C : Unit), Z = .inl C ∧ Mem [] w w' [] ∧ Sat Try.f24.ntmps [] a) ?_ ?_
 ·refine G_block (G_while (σ := Int) (ρ := (Unit) ⊕ (Int × Bool)) (fun f a w' => Mem [] w w' [] ∧ Sat Try.f24.ntmps [(0, .slice b c.length d), (1, .string h), (2, iv g), (8, iv f)] a) W (fun a ha => ⟨y.pk [], ha.s⟩) ?_)
  clear hm
  intro f ai hm B af i ⟨j, N⟩
  refine G_use N (G_seq (G_seq (G_region (wR 4 [(0, .slice b c.length d), (1, .string h), (2, iv g), (8, iv f), (20, .bool (decide (f < (c.length : Int))))] i (W_nil (N_then ?_))))))
  rcases gx_bif hm with ⟨o, hm⟩ | ⟨o, hm⟩
  ·refine gT o (G_skip (N_then (G_seq (G_block (G_seq ?_)))))
   obtain ⟨Y, T, R⟩ := gx_bind hm
   refine G_meet (fun a w' => Mem [] w w' [] ∧ Sat Try.f24.ntmps [(0, .slice b c.length d), (1, .string h), (2, iv g), (8, iv f), (38, .bool Y)] a) ?_ ?_
   ·have hm := T
    refine G_region (wR 2 [(0, .slice b c.length d), (1, .string h), (2, iv g), (8, iv f), (23, .slice b c.length d), (24, iv f)] i ?_)
    obtain ⟨F, u, hm⟩ := gx_bind hm
    refine wV (elemP b (f.toNat * 4)) i (eI (k.mem0 j) rfl u) (wV (elemP b (f.toNat * 4 + 2)) i (eF 2 (f.toNat * 4) 2 (k.mem0 j) u) (wV (.string F.Kind) i (eE false 1 2 (f.toNat * 4 + 2) (k.mem0 j) u) (wR 3 [(0, .slice b c.length d), (1, .string h), (2, iv g), (8, iv f), (30, .bool (F.Kind.toList == h.toList))] i ?_)))
    rcases gx_bif hm with ⟨q, hm⟩ | ⟨q, hm⟩
    ·refine wK 30 true q (wR 2 [(0, .slice b c.length d), (1, .string h), (2, iv g), (8, iv f), (30, .bool true), (31, .slice b c.length d), (32, iv f)] i ?_)
     obtain ⟨G, v, hm⟩ := gx_bind hm
     refine wV (elemP b (f.toNat * 4)) i (eI (k.mem0 j) rfl v) (wV (elemP b (f.toNat * 4 + 3)) i (eF 3 (f.toNat * 4) 3 (k.mem0 j) v) (wV (iv G.Value) i (eE false 1 3 (f.toNat * 4 + 3) (k.mem0 j) v) (wR 3 [(0, .slice b c.length d), (1, .string h), (2, iv g), (8, iv f), (38, .bool (decide (G.Value ≥ g)))] i (W_nil ?_))))
     obtain rfl := Option.some.inj hm
     exact N_meet fun a ha => ⟨j.pk [], ha.s⟩
    refine wK 30 false q (wR 8 [(0, .slice b c.length d), (1, .string h), (2, iv g), (8, iv f), (38, .bool false)] i (W_nil ?_))
    obtain rfl := Option.some.inj hm
    exact N_meet fun a ha => ⟨j.pk [], ha.s⟩
   intro ag E ⟨z, O⟩
   refine N_use O ?_
   have hm := R
   refine N_then ?_
   rcases gx_bif hm with ⟨t, hm⟩ | ⟨t, hm⟩
   ·refine gT t (G_seq (G_region (wR 3 [(6, iv f), (7, .bool true)] E (W_nil (N_then (G_ret (N_block_ret (N_then_ret (N_then_ret ?_)))))))))
    obtain rfl := Option.some.inj hm
    obtain rfl := B _ rfl
    have hm := A; simp only [Sum.elim_inr] at hm
    refine N_block_ret (N_meet_ret (N_then_ret ?_))
    obtain rfl := Option.some.inj hm
    exact N_ret [iv f, .bool true] (rC (rC RVs_nil)) (⟨rfl, z.pk []⟩)
   refine gF t (G_skip (N_block (N_then (G_region (wR 3 [(0, .slice b c.length d), (1, .string h), (2, iv g), (8, iv (w64 (f + 1)))] E (W_nil ?_))))))
   obtain rfl := Option.some.inj hm
   exact N_loop fun a ha => ⟨_, rfl, z.pk [], ha.s⟩
  refine gF o (G_exit (N_then_exit (N_then_exit (N_block_eq ?_))))
  obtain rfl := Option.some.inj hm
  obtain rfl := B _ rfl
  exact N_meet fun a ha => ⟨_, rfl, j.pk [], ha.s⟩
 intro ah ad ⟨C, hout_, K, P⟩
 refine N_use P ?_
 subst hout_
 have hm := A; simp only [Sum.elim_inl] at hm
 refine N_then (G_seq (G_region (wR 2 [(6, iv 0), (7, .bool false)] ad (W_nil (N_then (G_ret ?_))))))
 obtain rfl := Option.some.inj hm
 exact N_ret [iv 0, .bool false] (rC (rC RVs_nil)) (⟨rfl, K.pk []⟩)
theorem c_i_FirstWith_1 (w : World) (b : Event) (i : ByteArray) (h : Nat) (o : w.heap[h]? = some (.cells ⟨[.string i]⟩ 9 (0, 0))) (j : Int) (f : Nat) (q : w.heap[f]? = some (.cells ⟨[iv j]⟩ 3 (0, 0))) {r : Bool} (hm : M.i_FirstWith_1 b i j = some r) :
  Calls Try.prog 60 #[.agg #[iv b.Tick, iv b.Guest, .string b.Kind, iv b.Value], pB h 0, pB f 0] w fun e w' => e = .returned (.bool r) ∧ Mem [] w w' [] := by
 unfold M.i_FirstWith_1 at hm
 refine cE Try.func60 ?_
 have M0 := Mem.refl [] w
 refine G_seq (G_region (wN (.cells ⟨[iv b.Tick, iv b.Guest, .string b.Kind, iv b.Value]⟩ 26 (0, 0)) M0 ?_))
 intro g c d
 refine wR 1 [(1, pB h 0), (2, pB f 0), (3, pB g 0)] c (W_nil (N_then (G_seq ?_)))
 obtain ⟨l, u, t⟩ := gx_bind hm
 refine G_meet (fun a w' => Mem [] w w' [] ∧ Sat Try.f60.ntmps [(4, .bool l)] a) ?_ ?_
 ·have hm := u
  refine G_region (wR 1 [(1, pB h 0), (2, pB f 0), (3, pB g 0), (5, pB g 2)] c (wV (.string b.Kind) c (eL false 1 2 (d.blk 0 rfl)) (wV (.string i) c (eL false 1 0 (d.ro o)) (wR 2 [(2, pB f 0), (3, pB g 0), (9, .bool (b.Kind.toList == i.toList))] c ?_))))
  rcases gx_bif hm with ⟨k, hm⟩ | ⟨k, hm⟩
  ·refine wK 9 true k (wR 1 [(2, pB f 0), (9, .bool true), (10, pB g 3)] c (wV (iv b.Value) c (eL false 1 3 (d.blk 0 rfl)) (wV (iv j) c (eL false 1 0 (d.ro q)) (wR 3 [(4, .bool (decide (b.Value ≥ j)))] c (W_nil ?_)))))
   obtain rfl := Option.some.inj hm
   exact N_meet fun a ha => ⟨d.pk [], ha.s⟩
  refine wK 9 false k (wR 6 [(4, .bool false)] c (W_nil ?_))
  obtain rfl := Option.some.inj hm
  exact N_meet fun a ha => ⟨d.pk [], ha.s⟩
 intro v x ⟨m, n⟩
 refine N_use n ?_
 have hm := t
 refine N_then (G_ret ?_)
 obtain rfl := Option.some.inj hm
 exact N_ret [.bool l] (rC RVs_nil) (⟨rfl, m.pk []⟩)
theorem c_slices_IndexFunc_59__i_FirstWith_1 (w : World) (b : List Event) (g : Option Addr) (h : Nat) (t : rdS encEvent w b g h) (n : ByteArray) (d : Nat) (E : w.heap[d]? = some (.cells ⟨[.string n]⟩ 9 (0, 0))) (o : Int) (f : Nat) (F : w.heap[f]? = some (.cells ⟨[iv o]⟩ 3 (0, 0))) {r : Int} (hm : M.slices_IndexFunc_59__i_FirstWith_1 b n o = some r) :
  Calls Try.prog 59 #[.slice g b.length h, .func (.func 60) #[] #[pB d 0, pB f 0]] w fun e w' => e = .returned (iv r) ∧ Mem [] w w' [] := by
 unfold M.slices_IndexFunc_59__i_FirstWith_1 at hm
 refine cE Try.func59 ?_
 have M0 := Mem.refl [] w
 refine G_seq (G_region (wR 1 [(0, .slice g b.length h), (1, .func (.func 60) #[] #[pB d 0, pB f 0])] w (W_nil (N_then (G_seq (G_seq (G_region (wR 3 [(0, .slice g b.length h), (1, .func (.func 60) #[] #[pB d 0, pB f 0]), (7, iv (b.length : Int)), (8, iv 0)] w (W_nil (N_then ?_))))))))))
 obtain ⟨I, H, u⟩ := gx_bind hm
 refine G_meet (fun a w' => ∃ (y : Unit), I = .inl y ∧ Mem [] w w' [] ∧ Sat Try.f59.ntmps [] a) ?_ ?_
 ·refine G_block (G_while (σ := Int) (ρ := (Unit) ⊕ (Int)) (fun c a w' => Mem [] w w' [] ∧ Sat Try.f59.ntmps [(0, .slice g b.length h), (1, .func (.func 60) #[] #[pB d 0, pB f 0]), (7, iv (b.length : Int)), (8, iv c)] a) H (fun a ha => ⟨M0.pk [], ha.s⟩) ?_)
  clear hm
  intro c O hm v K k ⟨j, C⟩
  refine G_use C (G_seq (G_region (wR 1 [(0, .slice g b.length h), (1, .func (.func 60) #[] #[pB d 0, pB f 0]), (7, iv (b.length : Int)), (8, iv c), (9, .bool (decide (c < (b.length : Int))))] k (W_nil (N_then (G_seq ?_))))))
  rcases gx_bif hm with ⟨l, hm⟩ | ⟨l, hm⟩
  ·refine gT l (G_skip (N_then (G_seq (G_block (G_seq (G_region (wR 2 [(0, .slice g b.length h), (1, .func (.func 60) #[] #[pB d 0, pB f 0]), (5, iv c), (7, iv (b.length : Int)), (8, iv c)] k (W_nil (N_then (G_seq (G_region (wR 3 [(0, .slice g b.length h), (1, .func (.func 60) #[] #[pB d 0, pB f 0]), (5, iv c), (7, iv (b.length : Int)), (8, iv c), (11, .func (.func 60) #[] #[pB d 0, pB f 0]), (12, .slice g b.length h), (13, iv c)] k ?_))))))))))))
   obtain ⟨i, x, hm⟩ := gx_bind hm
   refine wV (elemP g (c.toNat * 4)) k (eI (t.mem0 j) rfl x) (wV (.agg #[iv i.Tick, iv i.Guest, .string i.Kind, iv i.Value]) k (eE true 4 0 (c.toNat * 4) (t.mem0 j) x) ?_)
   obtain ⟨N, G, hm⟩ := gx_bind hm
   refine wC 60 #[.agg #[iv i.Tick, iv i.Guest, .string i.Kind, iv i.Value], pB d 0, pB f 0] ((c_i_FirstWith_1 k i n d (j.ro E) o f (j.ro F) G).mono ?_)
   rintro e_ z ⟨rfl, A⟩
   have q := j.call0 A
   refine ⟨_, rfl, ?_⟩
   refine W_nil (N_then ?_)
   rcases gx_bif hm with ⟨m, hm⟩ | ⟨m, hm⟩
   ·refine gT m (G_seq (G_region (wR 2 [(4, iv c)] z (W_nil (N_then (G_ret (N_block_ret (N_then_ret (N_then_ret ?_)))))))))
    obtain rfl := Option.some.inj hm
    obtain rfl := v _ rfl
    have hm := u; simp only [Sum.elim_inr] at hm
    refine N_block_ret (N_meet_ret (N_then_ret ?_))
    obtain rfl := Option.some.inj hm
    exact N_ret [iv c] (rC RVs_nil) (⟨rfl, q.pk []⟩)
   refine gF m (G_skip (N_block (N_then (G_region (wR 2 [(0, .slice g b.length h), (1, .func (.func 60) #[] #[pB d 0, pB f 0]), (7, iv (b.length : Int)), (8, iv (w64 (c + 1)))] z (W_nil ?_))))))
   obtain rfl := Option.some.inj hm
   exact N_loop fun a ha => ⟨_, rfl, q.pk [], ha.s⟩
  refine gF l (G_exit (N_then_exit (N_then_exit (N_block_eq ?_))))
  obtain rfl := Option.some.inj hm
  obtain rfl := v _ rfl
  exact N_meet fun a ha => ⟨_, rfl, j.pk [], ha.s⟩
 intro L J ⟨y, hout_, B, D⟩
 refine N_use D ?_
 subst hout_
 have hm := u; simp only [Sum.elim_inl] at hm
 refine N_then (G_seq (G_region (wR 1 [(4, iv (-1))] J (W_nil (N_then (G_ret ?_))))))
 obtain rfl := Option.some.inj hm
 exact N_ret [iv (-1)] (rC RVs_nil) (⟨rfl, B.pk []⟩)
theorem c_i_FirstWith (w : World) (c : List Event) (f : Option Addr) (d : Nat) (B : rdS encEvent w c f d) (j : ByteArray) (i : Int) {r : Int × Bool} (hm : M.i_FirstWith c j i = some r) :
  Calls Try.prog 25 #[.slice f c.length d, .string j, iv i] w fun e w' => e = .returned (.tuple #[iv r.1, .bool r.2]) ∧ Mem [] w w' [] := by
 unfold M.i_FirstWith at hm
 refine cE Try.func25 ?_
 have M0 := Mem.refl [] w
 refine G_seq (G_region (wN (.cells ⟨[.string j]⟩ 9 (0, 0)) M0 ?_))
 intro g T F
 refine wN (.cells ⟨[iv i]⟩ 3 (0, 0)) F ?_
 intro h x z
 refine wR 2 [(0, .slice f c.length d), (4, pB g 0), (5, pB h 0)] x (W_nil (N_then (G_seq (G_seq ?_))))
 obtain ⟨O, J, I⟩ := gx_bind hm
 refine G_meet (fun a w' => Mem [] w w' [[(g, .cells ⟨[.string j]⟩ 9 (0, 0))], [(h, .cells ⟨[iv i]⟩ 3 (0, 0))]] ∧ Sat Try.f25.ntmps [(0, .slice f c.length d), (4, pB g 0), (5, pB h 0), (16, .bool O)] a) ?_ ?_
 ·have hm := J
  refine G_region (wR 1 [(0, .slice f c.length d), (4, pB g 0), (5, pB h 0), (9, .slice f c.length d)] x ?_)
  obtain ⟨P, K, hm⟩ := gx_bind hm
  refine wC 20 #[.slice f c.length d] ((c_i_IsRecord x c f d (B.mem0 z) K).mono ?_)
  rintro e_ m ⟨rfl, C⟩
  have q := z.call0 C
  refine ⟨_, rfl, ?_⟩
  refine wR 2 [(0, .slice f c.length d), (4, pB g 0), (5, pB h 0), (12, .bool (!P))] m ?_
  rcases gx_bif hm with ⟨t, hm⟩ | ⟨t, hm⟩
  ·refine wK 12 true t (wR 4 [(0, .slice f c.length d), (4, pB g 0), (5, pB h 0), (16, .bool true)] m (W_nil ?_))
   obtain rfl := Option.some.inj hm
   exact N_meet fun a ha => ⟨q.pk [0, 1], ha.s⟩
  refine wK 12 false t (wV (iv i) m (eL false 1 0 (q.blk 1 rfl)) ?_)
  obtain ⟨Q, L, hm⟩ := gx_bind hm
  refine wC 55 #[iv i] ((c_i_isWord16 m i L).mono ?_)
  rintro e_ R ⟨rfl, D⟩
  have G := q.call0 D
  refine ⟨_, rfl, ?_⟩
  refine wR 2 [(0, .slice f c.length d), (4, pB g 0), (5, pB h 0), (16, .bool (!Q))] R (W_nil ?_)
  obtain rfl := Option.some.inj hm
  exact N_meet fun a ha => ⟨G.pk [0, 1], ha.s⟩
 intro S y ⟨k, H⟩
 refine N_use H ?_
 have hm := I
 refine N_then ?_
 rcases gx_bif hm with ⟨u, hm⟩ | ⟨u, hm⟩
 ·refine gT u (G_seq (G_region (wR 2 [(6, iv 0), (7, .bool false)] y (W_nil (N_then (G_ret (N_then_ret ?_)))))))
  obtain rfl := Option.some.inj hm
  exact N_ret [iv 0, .bool false] (rC (rC RVs_nil)) (⟨rfl, k.pk []⟩)
 refine gF u (G_skip (N_then (G_seq (G_region (wR 2 [(17, .slice f c.length d), (18, .func (.func 60) #[] #[pB g 0, pB h 0])] y ?_)))))
 obtain ⟨l, N, hm⟩ := gx_bind hm
 refine wC 59 #[.slice f c.length d, .func (.func 60) #[] #[pB g 0, pB h 0]] ((c_slices_IndexFunc_59__i_FirstWith_1 y c f d (B.mem0 k) j g (k.blk 0 (b := g) (o := .cells ⟨[.string j]⟩ 9 (0, 0)) (by kernel_rfl)) i h (k.blk 1 (b := h) (o := .cells ⟨[iv i]⟩ 3 (0, 0)) (by kernel_rfl)) N).mono ?_)
 rintro e_ n ⟨rfl, E⟩
 have A := k.call0 E
 refine ⟨_, rfl, ?_⟩
 refine wR 1 [(8, iv l)] n (W_nil (N_then (G_seq (G_seq (G_region (wR 2 [(8, iv l), (21, .bool (decide (l < 0)))] n (W_nil (N_then ?_))))))))
 rcases gx_bif hm with ⟨v, hm⟩ | ⟨v, hm⟩
 ·refine gT v (G_seq (G_region (wR 2 [(6, iv 0), (7, .bool false)] n (W_nil (N_then (G_ret (N_then_ret ?_)))))))
  obtain rfl := Option.some.inj hm
  exact N_ret [iv 0, .bool false] (rC (rC RVs_nil)) (⟨rfl, A.pk []⟩)
 refine gF v (G_skip (N_then (G_seq (G_region (wR 3 [(6, iv l), (7, .bool true)] n (W_nil (N_then (G_ret ?_))))))))
 obtain rfl := Option.some.inj hm
 exact N_ret [iv l, .bool true] (rC (rC RVs_nil)) (⟨rfl, A.pk []⟩)
theorem c_l_FnExactFirstWith (w : World) (b : List Event) (d : Option Addr) (c : Nat) (n : rdS encEvent w b d c) (f : ByteArray) (g : Int) {r : Bool} (hm : M.l_FnExactFirstWith b f g = some r) :
  Calls Try.prog 6 #[.slice d b.length c, .string f, iv g] w fun e w' => e = .returned (.bool r) ∧ Mem [] w w' [] := by
 unfold M.l_FnExactFirstWith at hm
 refine cE Try.func6 ?_
 have M0 := Mem.refl [] w
 refine G_seq (G_region (wR 1 [(0, .slice d b.length c), (1, .string f), (2, iv g)] w (W_nil (N_then (G_seq (G_seq (G_region (wR 3 [(0, .slice d b.length c), (1, .string f), (2, iv g), (15, .bool (decide ((f.size : Int) > 1048576)))] w (W_nil (N_then ?_))))))))))
 rcases gx_bif hm with ⟨x, hm⟩ | ⟨x, hm⟩
 ·refine gT x (G_seq (G_region (wR 1 [(6, .bool true)] w (W_nil (N_then (G_ret (N_then_ret ?_)))))))
  obtain rfl := Option.some.inj hm
  exact N_ret [.bool true] (rC RVs_nil) (⟨rfl, M0.pk []⟩)
 refine gF x (G_skip (N_then (G_seq (G_region (wR 1 [(0, .slice d b.length c), (1, .string f), (2, iv g), (7, iv 1048576)] w (W_nil (N_then (G_seq (G_region (wR 2 [(0, .slice d b.length c), (1, .string f), (2, iv g), (7, iv 1048576), (16, .slice d b.length c), (17, iv 1048576)] w ?_))))))))))
 obtain ⟨R, ag, hm⟩ := gx_bind hm
 refine wC 17 #[.slice d b.length c, iv 1048576] ((c_l_szEventS w b d c (n.mem0 M0) 1048576 ag).mono ?_)
 rintro e_ m ⟨rfl, U⟩
 have q := M0.call0 U
 refine ⟨_, rfl, ?_⟩
 refine wR 1 [(0, .slice d b.length c), (1, .string f), (2, iv g), (7, iv R)] m (W_nil (N_then (G_seq (G_seq (G_region (wR 2 [(0, .slice d b.length c), (1, .string f), (2, iv g), (20, .bool (decide (R < 0)))] m (W_nil (N_then ?_))))))))
 rcases gx_bif hm with ⟨y, hm⟩ | ⟨y, hm⟩
 ·refine gT y (G_seq (G_region (wR 1 [(6, .bool true)] m (W_nil (N_then (G_ret (N_then_ret ?_)))))))
  obtain rfl := Option.some.inj hm
  exact N_ret [.bool true] (rC RVs_nil) (⟨rfl, q.pk []⟩)
 refine gF y (G_skip (N_then (G_seq (G_region (wR 1 [(0, .slice d b.length c), (1, .string f), (2, iv g), (22, .slice d b.length c)] m ?_)))))
 obtain ⟨D, ah, hm⟩ := gx_bind hm
 refine wC 19 #[.slice d b.length c] ((c_l_toEventS m b d c (n.mem0 q) ah).mono ?_)
 rintro e_ T ⟨C, v, au, rfl, ad, V⟩
 have I := q.call V
 refine ⟨_, rfl, ?_⟩
 refine wR 2 [(0, .slice d b.length c), (1, .string f), (2, iv g), (23, .slice C D.length v), (24, .string f), (25, iv g)] T ?_
 obtain ⟨j, ai, hm⟩ := gx_bind hm
 refine wC 24 #[.slice C D.length v, .string f, iv g] ((c_s_FirstWith T D C v (ad.rd I 0 (by kernel_rfl)) f g ai).mono ?_)
 rintro e_ E ⟨rfl, W⟩
 have J := I.call0 W
 refine ⟨_, rfl, ?_⟩
 refine wR 5 [(0, .slice d b.length c), (1, .string f), (2, iv g), (8, iv j.1), (9, .bool j.2)] E (W_nil (N_then (G_seq (G_region (wR 1 [(0, .slice d b.length c), (1, .string f), (2, iv g), (8, iv j.1), (9, .bool j.2), (29, .slice d b.length c)] E ?_)))))
 obtain ⟨k, aj, hm⟩ := gx_bind hm
 refine wC 19 #[.slice d b.length c] ((c_l_toEventS E b d c (n.mem0 J) aj).mono ?_)
 rintro e_ F ⟨i, h, ap, rfl, P, X⟩
 have K := J.call X
 refine ⟨_, rfl, ?_⟩
 refine wR 1 [(0, .slice d b.length c), (1, .string f), (2, iv g), (8, iv j.1), (9, .bool j.2), (10, .slice i k.length h)] F (W_nil (N_then (G_seq (G_region (wR 3 [(0, .slice d b.length c), (8, iv j.1), (9, .bool j.2), (10, .slice i k.length h), (32, .slice i k.length h), (33, .string f), (34, iv g)] F ?_)))))
 obtain ⟨l, ak, hm⟩ := gx_bind hm
 refine wC 25 #[.slice i k.length h, .string f, iv g] ((c_i_FirstWith F k i h (P.rd K 1 (by kernel_rfl)) f g ak).mono ?_)
 rintro e_ o ⟨rfl, Y⟩
 have L := K.call0 Y
 refine ⟨_, rfl, ?_⟩
 refine wR 5 [(0, .slice d b.length c), (8, iv j.1), (9, .bool j.2), (10, .slice i k.length h), (11, iv l.1), (12, .bool l.2)] o (W_nil (N_then (G_seq (G_seq ?_))))
 obtain ⟨an, ae, ac⟩ := gx_bind hm
 refine G_meet (fun a w' => Mem [] w w' [ap] ∧ Sat Try.f6.ntmps [(0, .slice d b.length c), (10, .slice i k.length h), (45, .bool an)] a) ?_ ?_
 ·have hm := ae
  refine G_region (wR 4 [(0, .slice d b.length c), (9, .bool j.2), (10, .slice i k.length h), (12, .bool l.2), (41, .bool (l.1 != j.1))] o ?_)
  rcases gx_bif hm with ⟨z, hm⟩ | ⟨z, hm⟩
  ·refine wK 41 true z (wR 4 [(0, .slice d b.length c), (10, .slice i k.length h), (45, .bool true)] o (W_nil ?_))
   obtain rfl := Option.some.inj hm
   exact N_meet fun a ha => ⟨L.pk [1], ha.s⟩
  refine wK 41 false z (wR 4 [(0, .slice d b.length c), (10, .slice i k.length h), (45, .bool (!(l.2 == j.2)))] o (W_nil ?_))
  obtain rfl := Option.some.inj hm
  exact N_meet fun a ha => ⟨L.pk [1], ha.s⟩
 intro ar G ⟨t, ab⟩
 refine N_use ab ?_
 have hm := ac
 refine N_then ?_
 rcases gx_bif hm with ⟨A, hm⟩ | ⟨A, hm⟩
 ·refine gT A (G_seq (G_region (wR 1 [(6, .bool false)] G (W_nil (N_then (G_ret (N_then_ret ?_)))))))
  obtain rfl := Option.some.inj hm
  exact N_ret [.bool false] (rC RVs_nil) (⟨rfl, t.pk []⟩)
 refine gF A (G_skip (N_then (G_seq (G_seq (G_region (wR 2 [(46, .slice i k.length h), (47, .slice d b.length c)] G ?_))))))
 obtain ⟨S, al, hm⟩ := gx_bind hm
 refine wC 19 #[.slice d b.length c] ((c_l_toEventS G b d c (n.mem0 t) al).mono ?_)
 rintro e_ aq ⟨Q, O, av, rfl, af, Z⟩
 have u := t.call Z
 refine ⟨_, rfl, ?_⟩
 obtain ⟨ao, am, hm⟩ := gx_bind hm
 refine wC 21 #[.slice i k.length h, .slice Q S.length O] ((c_l_eqEventS aq k i h (P.rd u 0 (by kernel_rfl)) S Q O (af.rd u 1 (by kernel_rfl)) am).mono ?_)
 rintro e_ H ⟨rfl, aa⟩
 have N := u.call0 aa
 refine ⟨_, rfl, ?_⟩
 refine wR 1 [(50, .bool (!ao))] H (W_nil (N_then ?_))
 rcases gx_bif hm with ⟨B, hm⟩ | ⟨B, hm⟩
 ·refine gT B (G_seq (G_region (wR 1 [(6, .bool false)] H (W_nil (N_then (G_ret (N_then_ret ?_)))))))
  obtain rfl := Option.some.inj hm
  exact N_ret [.bool false] (rC RVs_nil) (⟨rfl, N.pk []⟩)
 refine gF B (G_skip (N_then (G_seq (G_region (wR 1 [(6, .bool true)] H (W_nil (N_then (G_ret ?_))))))))
 obtain rfl := Option.some.inj hm
 exact N_ret [.bool true] (rC RVs_nil) (⟨rfl, N.pk []⟩)
theorem c_s_EventsOf (w : World) (c : List Event) (b : Option Addr) (f : Nat) (q : rdS encEvent w c b f) (g : Int) {r : (List Event) × Bool} (hm : M.s_EventsOf c g = some r) :
  Calls Try.prog 26 #[.slice b c.length f, iv g] w fun e w' => ∃ (V : Option Addr) (R : Nat) (X : Seg), e = .returned (.tuple #[.slice V r.1.length R, .bool r.2]) ∧ ownS encEvent r.1 V R X ∧ Mem [] w w' [X] := by
 unfold M.s_EventsOf at hm
 refine cE Try.func26 ?_
 have M0 := Mem.refl [] w
 refine G_seq (G_region (wR 2 [(0, .slice b c.length f), (1, iv g)] w (W_nil (N_then (G_seq (G_region (wL (E := encEvent) ([] : List Event) 0 [] 26 M0 ?_)))))))
 intro i h K L T N
 refine wR 1 [(0, .slice b c.length f), (1, iv g), (6, .slice i ([] : List Event).length h)] L (W_nil (N_then (G_seq (G_seq ?_))))
 obtain ⟨a3, ap, am⟩ := gx_bind hm
 refine G_meet (fun a w' => Mem [] w w' [K] ∧ Sat Try.f26.ntmps [(0, .slice b c.length f), (1, iv g), (6, .slice i ([] : List Event).length h), (16, .bool a3)] a) ?_ ?_
 ·have hm := ap
  refine G_region (wR 1 [(0, .slice b c.length f), (1, iv g), (6, .slice i ([] : List Event).length h), (9, .slice b c.length f)] L ?_)
  obtain ⟨a4, ay, hm⟩ := gx_bind hm
  refine wC 56 #[.slice b c.length f] ((c_s_l22Good L c b f (q.mem0 N) ay).mono ?_)
  rintro e_ B ⟨rfl, aa⟩
  have O := N.call0 aa
  refine ⟨_, rfl, ?_⟩
  refine wR 2 [(0, .slice b c.length f), (1, iv g), (6, .slice i ([] : List Event).length h), (12, .bool (!a4))] B ?_
  rcases gx_bif hm with ⟨C, hm⟩ | ⟨C, hm⟩
  ·refine wK 12 true C (wR 4 [(0, .slice b c.length f), (1, iv g), (6, .slice i ([] : List Event).length h), (16, .bool true)] B (W_nil ?_))
   obtain rfl := Option.some.inj hm
   exact N_meet fun a ha => ⟨O.pk [0], ha.s⟩
  refine wK 12 false C (wR 1 [(0, .slice b c.length f), (1, iv g), (6, .slice i ([] : List Event).length h), (12, .bool false), (13, iv g)] B ?_)
  obtain ⟨a5, az, hm⟩ := gx_bind hm
  refine wC 61 #[iv g] ((c_s_l22Guest B g az).mono ?_)
  rintro e_ a7 ⟨rfl, ab⟩
  have ac := O.call0 ab
  refine ⟨_, rfl, ?_⟩
  refine wR 2 [(0, .slice b c.length f), (1, iv g), (6, .slice i ([] : List Event).length h), (16, .bool (!a5))] a7 (W_nil ?_)
  obtain rfl := Option.some.inj hm
  exact N_meet fun a ha => ⟨ac.pk [0], ha.s⟩
 intro bb Y ⟨P, ah⟩
 refine N_use ah ?_
 have hm := am
 refine N_then ?_
 rcases gx_bif hm with ⟨D, hm⟩ | ⟨D, hm⟩
 ·refine gT D (G_seq (G_region (wR 3 [(4, .slice i ([] : List Event).length h), (5, .bool false)] Y (W_nil (N_then (G_ret (N_then_ret ?_)))))))
  obtain rfl := Option.some.inj hm
  exact N_ret [.slice i ([] : List Event).length h, .bool false] (rC (rC RVs_nil)) (⟨i, h, K, rfl, T, P.pk [0]⟩)
 refine gF D (G_skip (N_then (G_seq (G_seq (G_region (wR 1 [(0, .slice b c.length f), (1, iv g), (6, .slice i ([] : List Event).length h), (7, iv 0)] Y (W_nil (N_then ?_))))))))
 obtain ⟨y, a0, ao⟩ := gx_bind hm
 refine G_meet (fun a w' => ∃ (t : Option Addr), ∃ (o : Nat), ∃ (z : Seg), ownS encEvent y t o z ∧ Mem [] w w' [z] ∧ Sat Try.f26.ntmps [(6, .slice t y.length o)] a) ?_ ?_
 ·refine G_block (G_while (σ := List Event × Int) (ρ := List Event) (fun d a w' => ∃ (k : Option Addr), ∃ (j : Nat), ∃ (x : Seg), ownS encEvent d.1 k j x ∧ Mem [] w w' [x] ∧ Sat Try.f26.ntmps [(0, .slice b c.length f), (1, iv g), (6, .slice k d.1.length j), (7, iv d.2)] a) a0 (fun a ha => ⟨i, h, K, T, P.pk [0], ha.s⟩) ?_)
  clear hm
  intro d bj hm ax bc l ⟨k, j, x, H, n, ai⟩
  refine G_use ai (G_seq (G_seq (G_region (wR 4 [(0, .slice b c.length f), (1, iv g), (6, .slice k d.1.length j), (7, iv d.2), (21, .bool (decide (d.2 < (c.length : Int))))] l (W_nil (N_then ?_))))))
  rcases gx_bif hm with ⟨F, hm⟩ | ⟨F, hm⟩
  ·refine gT F (G_skip (N_then (G_seq (G_block (G_seq (G_region (wR 2 [(0, .slice b c.length f), (1, iv g), (6, .slice k d.1.length j), (7, iv d.2), (24, .slice b c.length f), (25, iv d.2)] l ?_)))))))
   obtain ⟨Z, I, hm⟩ := gx_bind hm
   refine wV (elemP b (d.2.toNat * 4)) l (eI (q.mem0 n) rfl I) (wV (elemP b (d.2.toNat * 4 + 1)) l (eF 1 (d.2.toNat * 4) 1 (q.mem0 n) I) (wV (iv Z.Guest) l (eE false 1 1 (d.2.toNat * 4 + 1) (q.mem0 n) I) (wR 2 [(0, .slice b c.length f), (1, iv g), (6, .slice k d.1.length j), (7, iv d.2), (30, .bool (Z.Guest == g))] l (W_nil (N_then ?_)))))
   obtain ⟨J, ar, an⟩ := gx_bind hm
   refine G_meet (fun a w' => ∃ (v : Option Addr), ∃ (u : Nat), ∃ (A : Seg), ownS encEvent J v u A ∧ Mem [] w w' [A] ∧ Sat Try.f26.ntmps [(0, .slice b c.length f), (1, iv g), (6, .slice v J.length u), (7, iv d.2)] a) ?_ ?_
   ·have hm := ar
    rcases gx_bif hm with ⟨G, hm⟩ | ⟨G, hm⟩
    ·refine gT G (G_region (wR 3 [(0, .slice b c.length f), (1, iv g), (6, .slice k d.1.length j), (7, iv d.2), (31, .slice k d.1.length j), (32, .slice b c.length f), (33, iv d.2)] l ?_))
     obtain ⟨m, U, hm⟩ := gx_bind hm
     refine wV (elemP b (d.2.toNat * 4)) l (eI (q.mem0 n) rfl U) (wV (.agg #[iv m.Tick, iv m.Guest, .string m.Kind, iv m.Value]) l (eE true 4 0 (d.2.toNat * 4) (q.mem0 n) U) (wL (E := encEvent) [m] 1 [iv m.Tick, iv m.Guest, .string m.Kind, iv m.Value] 26 n ?_))
     intro bg bf bh bi av Q
     obtain ⟨ag, al, hm⟩ := gx_bind hm
     refine wA 40 [iv 0, iv 0, .string ByteArray.empty, iv 0] 0 Q H (av.rd Q 1 (by kernel_rfl)) al ?_
     intro W S a6 a8 aw ad
     refine wR 1 [(0, .slice b c.length f), (1, iv g), (6, .slice W ag.length S), (7, iv d.2)] a8 (W_nil ?_)
     obtain rfl := Option.some.inj hm
     exact N_meet fun a ha => ⟨W, S, a6, aw, ad.pk [0], ha.s⟩
    refine gF G (G_skip ?_)
    obtain rfl := Option.some.inj hm
    exact N_meet fun a ha => ⟨k, j, x, H, n.pk [0], ha.s⟩
   intro bd a9 ⟨v, u, A, au, ae, aj⟩
   refine N_use aj ?_
   have hm := an
   refine N_block (N_then (G_region (wR 3 [(0, .slice b c.length f), (1, iv g), (6, .slice v J.length u), (7, iv (w64 (d.2 + 1)))] a9 (W_nil ?_))))
   obtain rfl := Option.some.inj hm
   exact N_loop fun a ha => ⟨_, rfl, v, u, A, au, ae.pk [0], ha.s⟩
  refine gF F (G_exit (N_then_exit (N_then_exit (N_block_eq ?_))))
  obtain rfl := Option.some.inj hm
  obtain rfl := ax _ rfl
  exact N_meet fun a ha => ⟨k, j, x, H, n.pk [0], ha.s⟩
 intro be ba ⟨t, o, z, aq, af, ak⟩
 refine N_use ak ?_
 have hm := ao
 refine N_then (G_seq (G_region (wR 3 [(4, .slice t y.length o), (5, .bool true)] ba (W_nil (N_then (G_ret ?_))))))
 obtain rfl := Option.some.inj hm
 exact N_ret [.slice t y.length o, .bool true] (rC (rC RVs_nil)) (⟨t, o, z, rfl, aq, af.pk [0]⟩)
theorem c_i_EventsOf_1 (w : World) (a : Event) (c : Int) (d : Nat) (h : w.heap[d]? = some (.cells ⟨[iv c]⟩ 3 (0, 0))) {r : Bool} (hm : M.i_EventsOf_1 a c = some r) :
  Calls Try.prog 63 #[.agg #[iv a.Tick, iv a.Guest, .string a.Kind, iv a.Value], pB d 0] w fun e w' => e = .returned (.bool r) ∧ Mem [] w w' [] := by
 unfold M.i_EventsOf_1 at hm
 refine cE Try.func63 ?_
 have M0 := Mem.refl [] w
 refine G_seq (G_region (wN (.cells ⟨[iv a.Tick, iv a.Guest, .string a.Kind, iv a.Value]⟩ 26 (0, 0)) M0 ?_))
 intro g b f
 refine wR 1 [(1, pB d 0), (2, pB g 0)] b (W_nil (N_then (G_seq (G_region (wR 1 [(1, pB d 0), (4, pB g 1)] b (wV (iv a.Guest) b (eL false 1 1 (f.blk 0 rfl)) (wV (iv c) b (eL false 1 0 (f.ro h)) (wR 2 [(3, .bool (a.Guest == c))] b (W_nil (N_then (G_ret ?_)))))))))))
 obtain rfl := Option.some.inj hm
 exact N_ret [.bool (a.Guest == c)] (rC RVs_nil) (⟨rfl, f.pk []⟩)
theorem c_i_eventsWhere_1__i_EventsOf_1 (w : World) (a : Event) (g : Int) (b : Nat) (l : w.heap[b]? = some (.cells ⟨[iv g]⟩ 3 (0, 0))) (f : Nat) (m : w.heap[f]? = some (.cells ⟨[.func (.func 63) #[] #[pB b 0]]⟩ 25 (0, 0))) {r : Bool} (hm : M.i_eventsWhere_1__i_EventsOf_1 a g = some r) :
  Calls Try.prog 82 #[.agg #[iv a.Tick, iv a.Guest, .string a.Kind, iv a.Value], pB f 0] w fun e w' => e = .returned (.bool r) ∧ Mem [] w w' [] := by
 unfold M.i_eventsWhere_1__i_EventsOf_1 at hm
 refine cE Try.func82 ?_
 have M0 := Mem.refl [] w
 refine G_seq (G_region (wN (.cells ⟨[iv a.Tick, iv a.Guest, .string a.Kind, iv a.Value]⟩ 26 (0, 0)) M0 ?_))
 intro k d c
 refine wR 1 [(1, pB f 0), (2, pB k 0)] d (W_nil (N_then (G_seq (G_region (wV (.func (.func 63) #[] #[pB b 0]) d (eL false 1 0 (c.ro m)) (wV (.agg #[iv a.Tick, iv a.Guest, .string a.Kind, iv a.Value]) d (eL true 4 0 (c.blk 0 rfl)) ?_))))))
 obtain ⟨h, n, hm⟩ := gx_bind hm
 refine wC 63 #[.agg #[iv a.Tick, iv a.Guest, .string a.Kind, iv a.Value], pB b 0] ((c_i_EventsOf_1 d a g b (c.ro l) n).mono ?_)
 rintro e_ o ⟨rfl, i⟩
 have j := c.call0 i
 refine ⟨_, rfl, ?_⟩
 refine wR 2 [(3, .bool (!h))] o (W_nil (N_then (G_ret ?_)))
 obtain rfl := Option.some.inj hm
 exact N_ret [.bool (!h)] (rC RVs_nil) (⟨rfl, j.pk []⟩)
theorem c_slices_IndexFunc_59__i_eventsWhere_1__i_EventsOf_1 (w : World) (b : List Event) (f : Option Addr) (g : Nat) (q : rdS encEvent w b f g) (n : Int) (k : Nat) (D : w.heap[k]? = some (.cells ⟨[iv n]⟩ 3 (0, 0))) (d : Nat) (E : w.heap[d]? = some (.cells ⟨[.func (.func 63) #[] #[pB k 0]]⟩ 25 (0, 0))) {r : Int} (hm : M.slices_IndexFunc_59__i_eventsWhere_1__i_EventsOf_1 b n = some r) :
  Calls Try.prog 59 #[.slice f b.length g, .func (.func 82) #[] #[pB d 0]] w fun e w' => e = .returned (iv r) ∧ Mem [] w w' [] := by
 unfold M.slices_IndexFunc_59__i_eventsWhere_1__i_EventsOf_1 at hm
 refine cE Try.func59 ?_
 have M0 := Mem.refl [] w
 refine G_seq (G_region (wR 1 [(0, .slice f b.length g), (1, .func (.func 82) #[] #[pB d 0])] w (W_nil (N_then (G_seq (G_seq (G_region (wR 3 [(0, .slice f b.length g), (1, .func (.func 82) #[] #[pB d 0]), (7, iv (b.length : Int)), (8, iv 0)] w (W_nil (N_then ?_))))))))))
 obtain ⟨H, G, t⟩ := gx_bind hm
 refine G_meet (fun a w' => ∃ (x : Unit), H = .inl x ∧ Mem [] w w' [] ∧ Sat Try.f59.ntmps [] a) ?_ ?_
 ·refine G_block (G_while (σ := Int) (ρ := (Unit) ⊕ (Int)) (fun c a w' => Mem [] w w' [] ∧ Sat Try.f59.ntmps [(0, .slice f b.length g), (1, .func (.func 82) #[] #[pB d 0]), (7, iv (b.length : Int)), (8, iv c)] a) G (fun a ha => ⟨M0.pk [], ha.s⟩) ?_)
  clear hm
  intro c N hm u J j ⟨i, B⟩
  refine G_use B (G_seq (G_region (wR 1 [(0, .slice f b.length g), (1, .func (.func 82) #[] #[pB d 0]), (7, iv (b.length : Int)), (8, iv c), (9, .bool (decide (c < (b.length : Int))))] j (W_nil (N_then (G_seq ?_))))))
  rcases gx_bif hm with ⟨l, hm⟩ | ⟨l, hm⟩
  ·refine gT l (G_skip (N_then (G_seq (G_block (G_seq (G_region (wR 2 [(0, .slice f b.length g), (1, .func (.func 82) #[] #[pB d 0]), (5, iv c), (7, iv (b.length : Int)), (8, iv c)] j (W_nil (N_then (G_seq (G_region (wR 3 [(0, .slice f b.length g), (1, .func (.func 82) #[] #[pB d 0]), (5, iv c), (7, iv (b.length : Int)), (8, iv c), (11, .func (.func 82) #[] #[pB d 0]), (12, .slice f b.length g), (13, iv c)] j ?_))))))))))))
   obtain ⟨h, v, hm⟩ := gx_bind hm
   refine wV (elemP f (c.toNat * 4)) j (eI (q.mem0 i) rfl v) (wV (.agg #[iv h.Tick, iv h.Guest, .string h.Kind, iv h.Value]) j (eE true 4 0 (c.toNat * 4) (q.mem0 i) v) ?_)
   obtain ⟨L, F, hm⟩ := gx_bind hm
   refine wC 82 #[.agg #[iv h.Tick, iv h.Guest, .string h.Kind, iv h.Value], pB d 0] ((c_i_eventsWhere_1__i_EventsOf_1 j h n k (i.ro D) d (i.ro E) F).mono ?_)
   rintro e_ y ⟨rfl, z⟩
   have o := i.call0 z
   refine ⟨_, rfl, ?_⟩
   refine W_nil (N_then ?_)
   rcases gx_bif hm with ⟨m, hm⟩ | ⟨m, hm⟩
   ·refine gT m (G_seq (G_region (wR 2 [(4, iv c)] y (W_nil (N_then (G_ret (N_block_ret (N_then_ret (N_then_ret ?_)))))))))
    obtain rfl := Option.some.inj hm
    obtain rfl := u _ rfl
    have hm := t; simp only [Sum.elim_inr] at hm
    refine N_block_ret (N_meet_ret (N_then_ret ?_))
    obtain rfl := Option.some.inj hm
    exact N_ret [iv c] (rC RVs_nil) (⟨rfl, o.pk []⟩)
   refine gF m (G_skip (N_block (N_then (G_region (wR 2 [(0, .slice f b.length g), (1, .func (.func 82) #[] #[pB d 0]), (7, iv (b.length : Int)), (8, iv (w64 (c + 1)))] y (W_nil ?_))))))
   obtain rfl := Option.some.inj hm
   exact N_loop fun a ha => ⟨_, rfl, o.pk [], ha.s⟩
  refine gF l (G_exit (N_then_exit (N_then_exit (N_block_eq ?_))))
  obtain rfl := Option.some.inj hm
  obtain rfl := u _ rfl
  exact N_meet fun a ha => ⟨_, rfl, i.pk [], ha.s⟩
 intro K I ⟨x, hout_, A, C⟩
 refine N_use C ?_
 subst hout_
 have hm := t; simp only [Sum.elim_inl] at hm
 refine N_then (G_seq (G_region (wR 1 [(4, iv (-1))] I (W_nil (N_then (G_ret ?_))))))
 obtain rfl := Option.some.inj hm
 exact N_ret [iv (-1)] (rC RVs_nil) (⟨rfl, A.pk []⟩)
theorem c_slices_DeleteFunc_81__i_eventsWhere_1__i_EventsOf_1 (w : World) (i : List Event) (c : Option Addr) (b : Nat) (j : Seg) (y : ownS encEvent i c b j) (D : Int) (m : Nat) (T : w.heap[m]? = some (.cells ⟨[iv D]⟩ 3 (0, 0))) (h : Nat) (U : w.heap[h]? = some (.cells ⟨[.func (.func 63) #[] #[pB m 0]]⟩ 25 (0, 0))) (hA : ∀ q ∈ List.flatten [j], w.heap[q.1]? = some q.2) (hN : (idsOf [j]).Nodup) (aa : m ∉ (idsOf [j])) (ab : h ∉ (idsOf [j])) {r : (List Event) × (List Event)} (hm : M.slices_DeleteFunc_81__i_eventsWhere_1__i_EventsOf_1 i D = some r) :
  Calls Try.prog 81 #[.slice c i.length b, .func (.func 82) #[] #[pB h 0]] w fun e w' => ∃ (ad : Seg), ∃ (ac : Option Addr) (S : Nat), e = .returned (.slice ac r.1.length S) ∧ ownS encEvent r.2 c b ad ∧ r.2.length = i.length ∧ viewS 4 r.2 c b ac S r.1 ∧ Mem (idsOf [j]) w w' [ad] := by
 unfold M.slices_DeleteFunc_81__i_eventsWhere_1__i_EventsOf_1 at hm
 refine cE Try.func81 ?_
 have M0 := Mem.start' w [j] hA hN
 refine G_seq (G_region (wR 1 [(0, .slice c i.length b), (1, .func (.func 82) #[] #[pB h 0])] w (W_nil (N_then (G_seq (G_region (wR 2 [(0, .slice c i.length b), (1, .func (.func 82) #[] #[pB h 0]), (8, .slice c i.length b), (9, .func (.func 82) #[] #[pB h 0])] w ?_)))))))
 obtain ⟨o, ax, hm⟩ := gx_bind hm
 refine wC 59 #[.slice c i.length b, .func (.func 82) #[] #[pB h 0]] ((c_slices_IndexFunc_59__i_eventsWhere_1__i_EventsOf_1 w i c b (y.rd M0 0 (by kernel_rfl)) D m (M0.roX T aa) h (M0.roX U ab) ax).mono ?_)
 rintro e_ A ⟨rfl, af⟩
 have P := M0.call0 af
 refine ⟨_, rfl, ?_⟩
 refine wR 1 [(0, .slice c i.length b), (1, .func (.func 82) #[] #[pB h 0]), (5, iv o)] A (W_nil (N_then (G_seq (G_seq (G_region (wR 2 [(0, .slice c i.length b), (1, .func (.func 82) #[] #[pB h 0]), (5, iv o), (12, .bool (o == (-1)))] A (W_nil (N_then ?_))))))))
 rcases gx_bif hm with ⟨G, hm⟩ | ⟨G, hm⟩
 ·refine gT G (G_seq (G_region (wR 2 [(4, .slice c i.length b)] A (W_nil (N_then (G_ret (N_then_ret ?_)))))))
  obtain rfl := Option.some.inj hm
  exact N_ret [.slice c i.length b] (rC RVs_nil) (⟨j, c, b, rfl, y, rfl, (viewS_self y), P.pk [0]⟩)
 refine gF G (G_skip (N_then (G_seq (G_seq (G_region (wR 3 [(0, .slice c i.length b), (1, .func (.func 82) #[] #[pB h 0]), (5, iv o), (6, iv (w64 (o + 1)))] A (W_nil (N_then ?_))))))))
 obtain ⟨g, az, aq⟩ := gx_bind hm
 refine G_meet (fun a w' => ∃ (K : Seg), ownS encEvent g.2 c b K ∧ g.2.length = i.length ∧ Mem (idsOf [j]) w w' [K] ∧ Sat Try.f81.ntmps [(0, .slice c g.2.length b), (5, iv g.1)] a) ?_ ?_
 ·refine G_block (G_while (σ := Int × Int × List Event) (ρ := Int × List Event) (fun d a w' => ∃ (t : Seg), ownS encEvent d.2.2 c b t ∧ d.2.2.length = i.length ∧ Mem (idsOf [j]) w w' [t] ∧ Sat Try.f81.ntmps [(0, .slice c d.2.2.length b), (1, .func (.func 82) #[] #[pB h 0]), (5, iv d.1), (6, iv d.2.1)] a) az (fun a ha => ⟨j, y, rfl, P.pk [0], ha.s⟩) ?_)
  clear hm
  intro d bd hm aw a9 B ⟨t, k, J, u, ak⟩
  refine G_use ak (G_seq (G_seq (G_region (wR 4 [(0, .slice c d.2.2.length b), (1, .func (.func 82) #[] #[pB h 0]), (5, iv d.1), (6, iv d.2.1), (19, .bool (decide (d.2.1 < (d.2.2.length : Int))))] B (W_nil (N_then ?_))))))
  rcases gx_bif hm with ⟨H, hm⟩ | ⟨H, hm⟩
  ·refine gT H (G_skip (N_then (G_seq (G_block (G_seq (G_region (wR 2 [(0, .slice c d.2.2.length b), (1, .func (.func 82) #[] #[pB h 0]), (5, iv d.1), (6, iv d.2.1), (22, .slice c d.2.2.length b), (23, iv d.2.1)] B ?_)))))))
   obtain ⟨f, X, hm⟩ := gx_bind hm
   refine wV (elemP c (d.2.1.toNat * 4)) B (eI (k.rd u 0 (by kernel_rfl)) rfl X) (wV (.agg #[iv f.Tick, iv f.Guest, .string f.Kind, iv f.Value]) B (eE true 4 0 (d.2.1.toNat * 4) (k.rd u 0 (by kernel_rfl)) X) (wN (.cells ⟨[iv 0, iv 0, .string ByteArray.empty, iv 0]⟩ 26 (0, 0)) u ?_))
   intro F bc ah
   refine wS true 4 0 (.agg #[iv f.Tick, iv f.Guest, .string f.Kind, iv f.Value]) 1 [iv f.Tick, iv f.Guest, .string f.Kind, iv f.Value] ah rfl ?_
   intro L v
   refine W_nil (N_then (G_seq (G_region (wR 1 [(0, .slice c d.2.2.length b), (1, .func (.func 82) #[] #[pB h 0]), (5, iv d.1), (6, iv d.2.1), (7, pB F 0), (26, .func (.func 82) #[] #[pB h 0])] L (wV (.agg #[iv f.Tick, iv f.Guest, .string f.Kind, iv f.Value]) L (eL true 4 0 (v.blk 1 rfl)) ?_)))))
   obtain ⟨a0, ay, hm⟩ := gx_bind hm
   refine wC 82 #[.agg #[iv f.Tick, iv f.Guest, .string f.Kind, iv f.Value], pB h 0] ((c_i_eventsWhere_1__i_EventsOf_1 L f D m (v.roX T aa) h (v.roX U ab) ay).mono ?_)
   rintro e_ C ⟨rfl, ag⟩
   have x := v.call0 ag
   refine ⟨_, rfl, ?_⟩
   refine wR 1 [(0, .slice c d.2.2.length b), (1, .func (.func 82) #[] #[pB h 0]), (5, iv d.1), (6, iv d.2.1), (7, pB F 0), (29, .bool (!a0))] C (W_nil (N_then ?_))
   obtain ⟨l, ar, ap⟩ := gx_bind hm
   refine G_meet (fun a w' => ∃ (z : Seg), ownS encEvent l.2 c b z ∧ l.2.length = i.length ∧ Mem (idsOf [j]) w w' [z] ∧ Sat Try.f81.ntmps [(0, .slice c l.2.length b), (1, .func (.func 82) #[] #[pB h 0]), (5, iv l.1), (6, iv d.2.1)] a) ?_ ?_
   ·have hm := ar
    rcases gx_bif hm with ⟨I, hm⟩ | ⟨I, hm⟩
    ·refine gT I (G_seq (G_region (wR 2 [(0, .slice c d.2.2.length b), (1, .func (.func 82) #[] #[pB h 0]), (5, iv d.1), (6, iv d.2.1), (7, pB F 0), (30, .slice c d.2.2.length b), (31, iv d.1)] C (wV (.agg #[iv f.Tick, iv f.Guest, .string f.Kind, iv f.Value]) C (eL true 4 0 (x.blk 1 rfl)) ?_))))
     obtain ⟨a7, Y, hm⟩ := gx_bind hm
     refine wV (elemP c (d.1.toNat * 4)) C (eI (k.rd x 0 (by kernel_rfl)) rfl Y) (wE true 4 d.1.toNat 0 (d.1.toNat * 4) a7 f (.agg #[iv f.Tick, iv f.Guest, .string f.Kind, iv f.Value]) 0 x k (gxIdx_spec Y).2 ?_)
     intro a5 a3 av ai
     refine wX 0 (.slice c d.2.2.length b) (.slice c (d.2.2.set d.1.toNat f).length b) (by rw [@List.length_set _ d.2.2 d.1.toNat f]) (wX 30 (.slice c d.2.2.length b) (.slice c (d.2.2.set d.1.toNat f).length b) (by rw [@List.length_set _ d.2.2 d.1.toNat f]) (W_nil (N_then (G_region (wR 3 [(0, .slice c (d.2.2.set d.1.toNat f).length b), (1, .func (.func 82) #[] #[pB h 0]), (5, iv (w64 (d.1 + 1))), (6, iv d.2.1)] a5 (W_nil ?_))))))
     obtain rfl := Option.some.inj hm
     exact N_meet fun a ha => ⟨a3, av, (List.length_set.trans J), ai.pk [0], ha.s⟩
    refine gF I (G_skip ?_)
    obtain rfl := Option.some.inj hm
    exact N_meet fun a ha => ⟨t, k, J, x.pk [0], ha.s⟩
   intro ba a6 ⟨z, au, ao, aj, al⟩
   refine N_use al ?_
   have hm := ap
   refine N_block (N_then (G_region (wR 3 [(0, .slice c l.2.length b), (1, .func (.func 82) #[] #[pB h 0]), (5, iv l.1), (6, iv (w64 (d.2.1 + 1)))] a6 (W_nil ?_))))
   obtain rfl := Option.some.inj hm
   exact N_loop fun a ha => ⟨_, rfl, z, au, ao, aj.pk [0], ha.s⟩
  refine gF H (G_exit (N_then_exit (N_then_exit (N_block_eq ?_))))
  obtain rfl := Option.some.inj hm
  obtain rfl := aw _ rfl
  exact N_meet fun a ha => ⟨t, k, J, u.pk [0], ha.s⟩
 intro bb ae ⟨K, V, an, Q, am⟩
 refine N_use am ?_
 have hm := aq
 refine N_then (G_seq (G_region (wR 2 [(0, .slice c g.2.length b), (5, iv g.1), (36, .slice c g.2.length b), (37, iv g.1)] ae ?_)))
 obtain ⟨a8, n, hm⟩ := gx_bind hm
 refine wV (.slice (subP c g.1.toNat b 4) a8.length (b - g.1.toNat)) ae (E_slice (E := encEvent) _ _ _ _ g.2.length g.1 (g.2.length : Int) rfl (by kernel_rfl) (Or.inr ⟨_, rfl, by kernel_rfl⟩) (Or.inl ⟨rfl, rfl⟩) (by kernel_rfl) (V.rd Q 0 (by kernel_rfl)) rfl n) (W_clear (E := encEvent) _ _ g.1 (g.2.length : Int) 40 [iv 0, iv 0, .string ByteArray.empty, iv 0] ((⟨0, 0, ByteArray.empty, 0⟩ : Event) : Event) 0 Q V (by kernel_rfl) (by kernel_rfl) (by kernel_rfl) rfl (by kernel_rfl) n (by kernel_rfl) (by kernel_rfl) ?_)
 intro N a4 W R
 refine wX 0 (.slice c g.2.length b) (.slice c (gxClear g.2 g.1 (g.2.length : Int) ((⟨0, 0, ByteArray.empty, 0⟩ : Event) : Event)).length b) (by rw [gxClear_len ((⟨0, 0, ByteArray.empty, 0⟩ : Event) : Event) n]) (wX 36 (.slice c g.2.length b) (.slice c (gxClear g.2 g.1 (g.2.length : Int) ((⟨0, 0, ByteArray.empty, 0⟩ : Event) : Event)).length b) (by rw [gxClear_len ((⟨0, 0, ByteArray.empty, 0⟩ : Event) : Event) n]) (W_nil (N_then (G_seq (G_region (wR 2 [(39, .slice c (gxClear g.2 g.1 (g.2.length : Int) ((⟨0, 0, ByteArray.empty, 0⟩ : Event) : Event)).length b), (40, iv g.1)] N ?_))))))
 obtain ⟨O, Z, hm⟩ := gx_bind hm
 refine wV (.slice (subP c (0 : Int).toNat b 4) O.length (b - (0 : Int).toNat)) N (E_slice (E := encEvent) _ _ _ _ (gxClear g.2 g.1 (g.2.length : Int) ((⟨0, 0, ByteArray.empty, 0⟩ : Event) : Event)).length 0 g.1 rfl (by kernel_rfl) (Or.inl ⟨rfl, rfl⟩) (Or.inr ⟨_, rfl, by kernel_rfl⟩) (by kernel_rfl) (W.rd R 0 (by kernel_rfl)) rfl Z) (wR 1 [(4, .slice (subP c (0 : Int).toNat b 4) O.length (b - (0 : Int).toNat))] N (W_nil (N_then (G_ret ?_))))
 obtain rfl := Option.some.inj hm
 exact N_ret [.slice (subP c (0 : Int).toNat b 4) O.length (b - (0 : Int).toNat)] (rC RVs_nil) (⟨a4, (subP c (0 : Int).toNat b 4), (b - (0 : Int).toNat), rfl, W, ((gxClear_len ((⟨0, 0, ByteArray.empty, 0⟩ : Event) : Event) n).trans an), ⟨0, g.1, rfl, rfl, Z⟩, R.pk [0]⟩)
theorem c_i_eventsWhere__i_EventsOf_1 (w : World) (i : List Event) (l : Option Addr) (k : Nat) (F : rdS encEvent w i l k) (n : Int) (f : Nat) (u : w.heap[f]? = some (.cells ⟨[iv n]⟩ 3 (0, 0))) {r : (List Event)} (hm : M.i_eventsWhere__i_EventsOf_1 i n = some r) :
  Calls Try.prog 62 #[.slice l i.length k, .func (.func 63) #[] #[pB f 0]] w fun e w' => ∃ (x : Option Addr) (t : Nat) (y : Seg), e = .returned (.slice x r.length t) ∧ ownS encEvent r x t y ∧ Mem [] w w' [y] := by
 unfold M.i_eventsWhere__i_EventsOf_1 at hm
 refine cE Try.func62 ?_
 have M0 := Mem.refl [] w
 refine G_seq (G_region (wN (.cells ⟨[.func (.func 63) #[] #[pB f 0]]⟩ 25 (0, 0)) M0 ?_))
 intro g R B
 refine wR 1 [(0, .slice l i.length k), (3, pB g 0)] R (W_nil (N_then (G_seq (G_region (wL (E := encEvent) ([] : List Event) 0 [] 26 B ?_)))))
 intro O D X S H q
 refine wR 1 [(3, pB g 0), (5, .slice O ([] : List Event).length D), (6, .slice l i.length k)] S ?_
 obtain ⟨j, G, hm⟩ := gx_bind hm
 refine wA 40 [iv 0, iv 0, .string ByteArray.empty, iv 0] 1 q H (F.mem0 q) G ?_
 intro c a P z I d
 refine wR 1 [(7, .slice c j.length a), (8, .func (.func 82) #[] #[pB g 0])] z ?_
 obtain ⟨m, K, hm⟩ := gx_bind hm
 refine wC 81 #[.slice c j.length a, .func (.func 82) #[] #[pB g 0]] ((c_slices_DeleteFunc_81__i_eventsWhere_1__i_EventsOf_1 z j c a P I n f (d.ro u) g (d.blk 0 (b := g) (o := .cells ⟨[.func (.func 63) #[] #[pB f 0]]⟩ 25 (0, 0)) (by kernel_rfl)) (d.hasPick [1]) (d.nodupPick [1] (by kernel_rfl)) (blkOld d u (by simp) [1]) (blkApart d 0 (o := .cells ⟨[.func (.func 63) #[] #[pB f 0]]⟩ 25 (0, 0)) (by kernel_rfl) [1] (by kernel_rfl)) K).mono ?_)
 rintro e_ T ⟨Q, W, U, rfl, J, v, N, A⟩
 obtain ⟨h, V, rfl, rfl, L⟩ := N
 have C := d.callF' [1] [0] (by kernel_rfl) A
 refine ⟨_, rfl, ?_⟩
 refine wX 7 (.slice c j.length a) (.slice c m.2.length a) (by first | rw [v] | rw [v]) (wR 1 [(4, .slice (subP c h.toNat a 4) m.1.length (a - h.toNat))] T (W_nil (N_then (G_ret ?_))))
 obtain rfl := Option.some.inj hm
 exact N_ret [.slice (subP c h.toNat a 4) m.1.length (a - h.toNat)] (rC RVs_nil) (⟨(subP c h.toNat a 4), (a - h.toNat), Q, rfl, (J.partM L), C.pk [1]⟩)
end Go.Proofs.Ytfcebglkdfadcaa
