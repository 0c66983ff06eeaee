/- The walks, printed by program: whenever the model gives r, the call returns r. Part 3. -/
import Derived.Test.YtllhajkgkghhdaaGreatAM
import Derived.Test.YtllhajkgkghhdaaGreatGxZ
import Derived.Test.YtllhajkgkghhdaaGreatProg
import Derived.Test.YtllhajkgkghhdaaGreatSh
import Derived.Test.YtllhajkgkghhdaaGreatAC2
set_option linter.unusedVariables false
set_option maxRecDepth 100000
set_option maxHeartbeats 4000000
namespace Go.Proofs.YtllhajkgkghhdaaGreat
open Go.Gx
theorem c_i_waiterIndex (w : World) (a : List Waiter) (d : Option Addr) (c : Nat) (m : rdS encWaiter w a d c) (g : Int) {r : Int} (hm : M.i_waiterIndex a g = some r) :
  Calls Tryz.prog 196 #[.slice d a.length c, iv g] w fun e w' => e = .returned (iv r) ∧ Mem [] w w' [] := by
 unfold M.i_waiterIndex at hm
 refine cE Tryz.func196 ?_
 have M0 := Mem.refl [] w
 refine G_seq (G_region (wN (.cells ⟨[iv g]⟩ 3 (0, 0)) M0 ?_))
 intro f i h
 refine wR 1 [(0, .slice d a.length c), (3, pB f 0)] i (W_nil (N_then (G_seq (G_region (wR 2 [(5, .slice d a.length c), (6, .func (.func 239) #[] #[pB f 0])] i ?_)))))
 obtain ⟨j, n, hm⟩ := gx_bind hm
 refine wC 166 #[.slice d a.length c, .func (.func 239) #[] #[pB f 0]] ((c_slices_IndexFunc_166__i_waiterIndex_1 i a d c (m.mem0 h) g f (h.blk 0 (b := f) (o := .cells ⟨[iv g]⟩ 3 (0, 0)) (by kernel_rfl)) n).mono ?_)
 rintro e_ q ⟨rfl, k⟩
 have l := h.call0 k
 refine ⟨_, rfl, ?_⟩
 refine wR 1 [(4, iv j)] q (W_nil (N_then (G_ret ?_)))
 obtain rfl := Option.some.inj hm
 exact N_ret [iv j] (rC RVs_nil) (⟨rfl, l.pk []⟩)
theorem c_cmp_isNaN_222 (w : World) (a : Int) {r : Bool} (hm : M.cmp_isNaN_222 a = some r) :
  Calls Tryz.prog 222 #[iv a] w fun e w' => e = .returned (.bool r) ∧ Mem [] w w' [] := by
 unfold M.cmp_isNaN_222 at hm
 refine cE Tryz.func222 ?_
 have M0 := Mem.refl [] w
 refine G_seq (G_region (wR 1 [(0, iv a)] w (W_nil (N_then (G_seq (G_region (wR 4 [(2, .bool (a != a))] w (W_nil (N_then (G_ret ?_))))))))))
 obtain rfl := Option.some.inj hm
 exact N_ret [.bool (a != a)] (rC RVs_nil) (⟨rfl, M0.pk []⟩)
theorem c_cmp_Compare_170 (w : World) (a : Int) (b : Int) {r : Int} (hm : M.cmp_Compare_170 a b = some r) :
  Calls Tryz.prog 170 #[iv a, iv b] w fun e w' => e = .returned (iv r) ∧ Mem [] w w' [] := by
 unfold M.cmp_Compare_170 at hm
 refine cE Tryz.func170 ?_
 have M0 := Mem.refl [] w
 refine G_seq (G_region (wR 1 [(0, iv a), (1, iv b)] w (W_nil (N_then (G_seq (G_region (wR 1 [(0, iv a), (1, iv b), (7, iv a)] w ?_)))))))
 obtain ⟨f, t, hm⟩ := gx_bind hm
 refine wC 222 #[iv a] ((c_cmp_isNaN_222 w a t).mono ?_)
 rintro e_ m ⟨rfl, n⟩
 have q := M0.call0 n
 refine ⟨_, rfl, ?_⟩
 refine wR 1 [(0, iv a), (1, iv b), (5, .bool f)] m (W_nil (N_then (G_seq (G_region (wR 1 [(0, iv a), (1, iv b), (5, .bool f), (9, iv b)] m ?_)))))
 obtain ⟨g, u, hm⟩ := gx_bind hm
 refine wC 222 #[iv b] ((c_cmp_isNaN_222 m b u).mono ?_)
 rintro e_ c ⟨rfl, o⟩
 have d := q.call0 o
 refine ⟨_, rfl, ?_⟩
 refine wR 1 [(0, iv a), (1, iv b), (5, .bool f), (6, .bool g)] c (W_nil (N_then (G_seq (G_seq (G_region (wR 1 [(0, iv a), (1, iv b), (6, .bool g), (11, .bool f)] c (W_nil (N_then ?_))))))))
 rcases gx_bif hm with ⟨h, hm⟩ | ⟨h, hm⟩
 ·refine gT h (G_seq (G_seq (G_region (wR 1 [(12, .bool g)] c (W_nil (N_then ?_))))))
  rcases gx_bif hm with ⟨i, hm⟩ | ⟨i, hm⟩
  ·refine gT i (G_seq (G_region (wR 1 [(4, iv 0)] c (W_nil (N_then (G_ret (N_then_ret (N_then_ret ?_))))))))
   obtain rfl := Option.some.inj hm
   exact N_ret [iv 0] (rC RVs_nil) (⟨rfl, d.pk []⟩)
  refine gF i (G_skip (N_then (G_seq (G_region (wR 1 [(4, iv (-1))] c (W_nil (N_then (G_ret (N_then_ret ?_)))))))))
  obtain rfl := Option.some.inj hm
  exact N_ret [iv (-1)] (rC RVs_nil) (⟨rfl, d.pk []⟩)
 refine gF h (G_skip (N_then (G_seq (G_seq (G_region (wR 1 [(0, iv a), (1, iv b), (13, .bool g)] c (W_nil (N_then ?_))))))))
 rcases gx_bif hm with ⟨j, hm⟩ | ⟨j, hm⟩
 ·refine gT j (G_seq (G_region (wR 1 [(4, iv 1)] c (W_nil (N_then (G_ret (N_then_ret ?_)))))))
  obtain rfl := Option.some.inj hm
  exact N_ret [iv 1] (rC RVs_nil) (⟨rfl, d.pk []⟩)
 refine gF j (G_skip (N_then (G_seq (G_seq (G_region (wR 3 [(0, iv a), (1, iv b), (16, .bool (decide (a < b)))] c (W_nil (N_then ?_))))))))
 rcases gx_bif hm with ⟨k, hm⟩ | ⟨k, hm⟩
 ·refine gT k (G_seq (G_region (wR 1 [(4, iv (-1))] c (W_nil (N_then (G_ret (N_then_ret ?_)))))))
  obtain rfl := Option.some.inj hm
  exact N_ret [iv (-1)] (rC RVs_nil) (⟨rfl, d.pk []⟩)
 refine gF k (G_skip (N_then (G_seq (G_seq (G_region (wR 3 [(19, .bool (decide (a > b)))] c (W_nil (N_then ?_))))))))
 rcases gx_bif hm with ⟨l, hm⟩ | ⟨l, hm⟩
 ·refine gT l (G_seq (G_region (wR 1 [(4, iv 1)] c (W_nil (N_then (G_ret (N_then_ret ?_)))))))
  obtain rfl := Option.some.inj hm
  exact N_ret [iv 1] (rC RVs_nil) (⟨rfl, d.pk []⟩)
 refine gF l (G_skip (N_then (G_seq (G_region (wR 1 [(4, iv 0)] c (W_nil (N_then (G_ret ?_))))))))
 obtain rfl := Option.some.inj hm
 exact N_ret [iv 0] (rC RVs_nil) (⟨rfl, d.pk []⟩)
theorem c_cmp_Or_169 (w : World) (b : List Int) (c : Option Addr) (d : Nat) (l : rdS Gx.encI w b c d) {r : Int} (hm : M.cmp_Or_169 b = some r) :
  Calls Tryz.prog 169 #[.slice c b.length d] w fun e w' => e = .returned (iv r) ∧ Mem [] w w' [] := by
 unfold M.cmp_Or_169 at hm
 refine cE Tryz.func169 ?_
 have M0 := Mem.refl [] w
 refine G_seq (G_region (wR 1 [(0, .slice c b.length d)] w (W_nil (N_then (G_seq (G_region (wR 1 [(0, .slice c b.length d), (3, iv 0)] w (W_nil (N_then (G_seq (G_seq (G_region (wR 3 [(3, iv 0), (6, .slice c b.length d), (7, iv (b.length : Int)), (8, iv 0)] w (W_nil (N_then ?_)))))))))))))))
 obtain ⟨y, x, m⟩ := gx_bind hm
 refine G_meet (fun a w' => ∃ (q : Unit), y = .inl q ∧ Mem [] w w' [] ∧ Sat Tryz.f169.ntmps [(3, iv 0)] a) ?_ ?_
 ·refine G_block (G_while (σ := Int) (ρ := (Unit) ⊕ (Int)) (fun f a w' => Mem [] w w' [] ∧ Sat Tryz.f169.ntmps [(3, iv 0), (6, .slice c b.length d), (7, iv (b.length : Int)), (8, iv f)] a) x (fun a ha => ⟨M0.pk [], ha.s⟩) ?_)
  clear hm
  intro f C hm n A g ⟨i, u⟩
  refine G_use u (G_seq (G_region (wR 1 [(3, iv 0), (6, .slice c b.length d), (7, iv (b.length : Int)), (8, iv f), (9, .bool (decide (f < (b.length : Int))))] g (W_nil (N_then (G_seq ?_))))))
  rcases gx_bif hm with ⟨j, hm⟩ | ⟨j, hm⟩
  ·refine gT j (G_skip (N_then (G_seq (G_block (G_seq (G_region ?_))))))
   obtain ⟨h, o, hm⟩ := gx_bind hm
   refine wV (elemP c (f.toNat * 1)) g (eI (l.mem0 i) rfl o) (wV (iv h) g (eE false 1 0 (f.toNat * 1) (l.mem0 i) o) (wR 1 [(3, iv 0), (5, iv h), (6, .slice c b.length d), (7, iv (b.length : Int)), (8, iv f)] g (W_nil (N_then (G_seq (G_region (wR 3 [(3, iv 0), (5, iv h), (6, .slice c b.length d), (7, iv (b.length : Int)), (8, iv f), (14, .bool (h != 0))] g (W_nil (N_then ?_)))))))))
   rcases gx_bif hm with ⟨k, hm⟩ | ⟨k, hm⟩
   ·refine gT k (G_seq (G_region (wR 2 [(2, iv h)] g (W_nil (N_then (G_ret (N_block_ret (N_then_ret (N_then_ret ?_)))))))))
    obtain rfl := Option.some.inj hm
    obtain rfl := n _ rfl
    have hm := m; simp only [Sum.elim_inr] at hm
    refine N_block_ret (N_meet_ret (N_then_ret ?_))
    obtain rfl := Option.some.inj hm
    exact N_ret [iv h] (rC RVs_nil) (⟨rfl, i.pk []⟩)
   refine gF k (G_skip (N_block (N_then (G_region (wR 2 [(3, iv 0), (6, .slice c b.length d), (7, iv (b.length : Int)), (8, iv (w64 (f + 1)))] g (W_nil ?_))))))
   obtain rfl := Option.some.inj hm
   exact N_loop fun a ha => ⟨_, rfl, i.pk [], ha.s⟩
  refine gF j (G_exit (N_then_exit (N_then_exit (N_block_eq ?_))))
  obtain rfl := Option.some.inj hm
  obtain rfl := n _ rfl
  exact N_meet fun a ha => ⟨_, rfl, i.pk [], ha.s⟩
 intro B z ⟨q, hout_, t, v⟩
 refine N_use v ?_
 subst hout_
 have hm := m; simp only [Sum.elim_inl] at hm
 refine N_then (G_seq (G_region (wR 2 [(2, iv 0)] z (W_nil (N_then (G_ret ?_))))))
 obtain rfl := Option.some.inj hm
 exact N_ret [iv 0] (rC RVs_nil) (⟨rfl, t.pk []⟩)
theorem c_i_compareUrgency (w : World) (a : Waiter) (b : Waiter) {r : Int} (hm : M.i_compareUrgency a b = some r) :
  Calls Tryz.prog 129 #[.agg #[iv a.Irq, iv a.Priority], .agg #[iv b.Irq, iv b.Priority]] w fun e w' => e = .returned (iv r) ∧ Mem [] w w' [] := by
 unfold M.i_compareUrgency at hm
 refine cE Tryz.func129 ?_
 have M0 := Mem.refl [] w
 refine G_seq (G_region (wN (.cells ⟨[iv a.Irq, iv a.Priority]⟩ 142 (0, 0)) M0 ?_))
 intro c aj F
 refine wN (.cells ⟨[iv b.Irq, iv b.Priority]⟩ 142 (0, 0)) F ?_
 intro d W G
 refine wR 1 [(2, pB c 0), (3, pB d 0)] W (W_nil (N_then (G_seq ?_)))
 obtain ⟨l, T, hm⟩ := gx_bind hm
 refine G_sub [(2, pB c 0), (3, pB d 0)] (by kernel_rfl) (G_dagL 9 [[], [0], [], [2], [1, 3], [], [5], [], [7]] [[], [], [], [], [], [], [], [], []] [[], [], [], [], [], [], [], [], []] [[], [], [], [], [], [], [], [], []] [[], [], [], [], [], [], [], [], []] [[], [], [], [], [], [], [], [], []] (fun _ => []) (fun i => ([fun f v s => v = (pB c 1 : Value) ∧ s = [], fun f v s => v = (iv a.Priority : Value) ∧ s = [], fun f v s => v = (pB d 1 : Value) ∧ s = [], fun f v s => v = (iv b.Priority : Value) ∧ s = [], fun f v s => v = (iv l : Value) ∧ s = [], fun f v s => v = (pB c 0 : Value) ∧ s = [], fun f v s => v = (iv a.Irq : Value) ∧ s = [], fun f v s => v = (pB d 0 : Value) ∧ s = [], fun f v s => v = (iv b.Irq : Value) ∧ s = []] : List ((Nat → Value) → Value → Seg → Prop)).getD i (fun _ _ _ => False)) (fun j f v => ∃ s, (fun i => ([fun f v s => v = (pB c 1 : Value) ∧ s = [], fun f v s => v = (iv a.Priority : Value) ∧ s = [], fun f v s => v = (pB d 1 : Value) ∧ s = [], fun f v s => v = (iv b.Priority : Value) ∧ s = [], fun f v s => v = (iv l : Value) ∧ s = [], fun f v s => v = (pB c 0 : Value) ∧ s = [], fun f v s => v = (iv a.Irq : Value) ∧ s = [], fun f v s => v = (pB d 0 : Value) ∧ s = [], fun f v s => v = (iv b.Irq : Value) ∧ s = []] : List ((Nat → Value) → Value → Seg → Prop)).getD i (fun _ _ _ => False)) j f v s) [] [4, 6, 8] [] (fun _ _ _ s h => ⟨s, h⟩) (by kernel_rfl) (by kernel_rfl) (G.preNil 9) (by kernel_rfl) (by kernel_rfl) (by kernel_rfl) (by kernel_rfl) (allOb_cons ?_ (allOb_cons ?_ (allOb_cons ?_ (allOb_cons ?_ (allOb_cons ?_ (allOb_cons ?_ (allOb_cons ?_ (allOb_cons ?_ (allOb_cons ?_ allOb_nil))))))))) ?_)
 ·intro k g
  intro R X H
  exact wR 1 [(5, pB c 1)] X (W_nil (oE (pB c 1) [] ⟨by kernel_rfl, rfl⟩ H))
 ·intro k g
  intro v0_ hb0_
  obtain ⟨rfl, _⟩ := hb0_
  intro R Y n
  exact wV (iv a.Priority) Y (eL false 1 1 (n.blk 0 rfl)) (W_nil (oE (iv a.Priority) [] ⟨by kernel_rfl, rfl⟩ n))
 ·intro k g
  intro R Z I
  exact wR 1 [(7, pB d 1)] Z (W_nil (oE (pB d 1) [] ⟨by kernel_rfl, rfl⟩ I))
 ·intro k g
  intro v2_ hb2_
  obtain ⟨rfl, _⟩ := hb2_
  intro R aa o
  exact wV (iv b.Priority) aa (eL false 1 1 (o.blk 1 rfl)) (W_nil (oE (iv b.Priority) [] ⟨by kernel_rfl, rfl⟩ o))
 ·intro k g
  intro v1_ hb1_
  obtain ⟨rfl, _⟩ := hb1_
  intro v3_ hb3_
  obtain ⟨rfl, _⟩ := hb3_
  intro R ab J
  refine wC 170 #[iv a.Priority, iv b.Priority] ((c_cmp_Compare_170 ab a.Priority b.Priority T).mono ?_)
  rintro e_ ak ⟨rfl, B⟩
  refine ⟨_, rfl, ?_⟩
  exact W_nil (oE (iv l) [] ⟨rfl, rfl⟩ (J.call0 B))
 ·intro k g
  intro R ac K
  exact wR 1 [(10, pB c 0)] ac (W_nil (oE (pB c 0) [] ⟨by kernel_rfl, rfl⟩ K))
 ·intro k g
  intro v5_ hb5_
  obtain ⟨rfl, _⟩ := hb5_
  intro R ad q
  exact wV (iv a.Irq) ad (eL false 1 0 (q.blk 0 rfl)) (W_nil (oE (iv a.Irq) [] ⟨by kernel_rfl, rfl⟩ q))
 ·intro k g
  intro R ae L
  exact wR 1 [(12, pB d 0)] ae (W_nil (oE (pB d 0) [] ⟨by kernel_rfl, rfl⟩ L))
 ·intro k g
  intro v7_ hb7_
  obtain ⟨rfl, _⟩ := hb7_
  intro R af t
  exact wV (iv b.Irq) af (eL false 1 0 (t.blk 1 rfl)) (W_nil (oE (iv b.Irq) [] ⟨by kernel_rfl, rfl⟩ t))
 intro k g
 intro v4_ hb4_
 obtain ⟨rfl, _⟩ := hb4_
 intro v6_ hb6_
 obtain ⟨rfl, _⟩ := hb6_
 intro v8_ hb8_
 obtain ⟨rfl, _⟩ := hb8_
 intro A N
 have O : Mem [] w A [[(c, .cells ⟨[iv a.Irq, iv a.Priority]⟩ 142 (0, 0))], [(d, .cells ⟨[iv b.Irq, iv b.Priority]⟩ 142 (0, 0))]] := N
 obtain ⟨m, U, hm⟩ := gx_bind hm
 refine wC 170 #[iv a.Irq, iv b.Irq] ((c_cmp_Compare_170 A a.Irq b.Irq U).mono ?_)
 rintro e_ al ⟨rfl, C⟩
 have P := O.call0 C
 refine ⟨_, rfl, ?_⟩
 refine wL (E := Gx.encI) [l, m] 2 [iv l, iv m] 3 P ?_
 intro y x ai ag S u
 obtain ⟨z, V, hm⟩ := gx_bind hm
 refine wC 169 #[.slice y [l, m].length x] ((c_cmp_Or_169 ag [l, m] y x (S.rd u 2 (by kernel_rfl)) V).mono ?_)
 rintro e_ ah ⟨rfl, D⟩
 have Q := u.call0 D
 refine ⟨_, rfl, ?_⟩
 refine wR 1 [(4, iv z)] ah (W_nil (N_then (G_ret ?_)))
 obtain rfl := Option.some.inj hm
 exact N_ret [iv z] (rC RVs_nil) (⟨rfl, Q.pk []⟩)
theorem c_i_areParts (w : World) (g : List Slot) (i : Option Addr) (h : Nat) (L : rdS encSlot w g i h) (b : List Waiter) (d : Option Addr) (c : Nat) (l : rdS encWaiter w b d c) {r : Bool} (hm : M.i_areParts g b = some r) :
  Calls Tryz.prog 160 #[.slice i g.length h, .slice d b.length c] w fun e w' => e = .returned (.bool r) ∧ Mem [] w w' [] := by
 unfold M.i_areParts at hm
 refine cE Tryz.func160 ?_
 have M0 := Mem.refl [] w
 refine G_seq (G_region (wR 1 [(0, .slice i g.length h), (1, .slice d b.length c)] w (W_nil (N_then (G_seq (G_seq (G_region (wR 1 [(0, .slice i g.length h), (1, .slice d b.length c), (7, .slice i g.length h)] w ?_))))))))
 obtain ⟨au, aj, hm⟩ := gx_bind hm
 refine wC 195 #[.slice i g.length h] ((c_i_AreSlots w g i h (L.mem0 M0) aj).mono ?_)
 rintro e_ I ⟨rfl, U⟩
 have J := M0.call0 U
 refine ⟨_, rfl, ?_⟩
 refine wR 1 [(0, .slice i g.length h), (1, .slice d b.length c), (9, .bool (!au))] I (W_nil (N_then ?_))
 rcases gx_bif hm with ⟨z, hm⟩ | ⟨z, hm⟩
 ·refine gT z (G_seq (G_region (wR 1 [(4, .bool false)] I (W_nil (N_then (G_ret (N_then_ret ?_)))))))
  obtain rfl := Option.some.inj hm
  exact N_ret [.bool false] (rC RVs_nil) (⟨rfl, J.pk []⟩)
 refine gF z (G_skip (N_then (G_seq (G_seq (G_region (wR 3 [(0, .slice i g.length h), (1, .slice d b.length c), (10, .slice d b.length c), (11, iv (b.length : Int)), (12, iv 0)] I (W_nil (N_then ?_))))))))
 obtain ⟨ar, ap, N⟩ := gx_bind hm
 refine G_meet (fun a w' => ∃ (S : Unit), ar = .inl S ∧ Mem [] w w' [] ∧ Sat Tryz.f160.ntmps [] a) ?_ ?_
 ·refine G_block (G_while (σ := Int) (ρ := (Unit) ⊕ (Bool)) (fun f a w' => Mem [] w w' [] ∧ Sat Tryz.f160.ntmps [(0, .slice i g.length h), (1, .slice d b.length c), (10, .slice d b.length c), (11, iv (b.length : Int)), (12, iv f)] a) ap (fun a ha => ⟨J.pk [], ha.s⟩) ?_)
  clear hm
  intro f a9 hm O ax x ⟨u, ae⟩
  refine G_use ae (G_seq (G_region (wR 1 [(0, .slice i g.length h), (1, .slice d b.length c), (10, .slice d b.length c), (11, iv (b.length : Int)), (12, iv f), (13, .bool (decide (f < (b.length : Int))))] x (W_nil (N_then (G_seq ?_))))))
  rcases gx_bif hm with ⟨A, hm⟩ | ⟨A, hm⟩
  ·refine gT A (G_skip (N_then (G_seq (G_block (G_seq (G_region (wR 1 [(0, .slice i g.length h), (1, .slice d b.length c), (10, .slice d b.length c), (11, iv (b.length : Int)), (12, iv f), (14, iv f)] x ?_)))))))
   obtain ⟨j, P, hm⟩ := gx_bind hm
   refine wV (elemP d (f.toNat * 2)) x (eI (l.mem0 u) rfl P) (wV (.agg #[iv j.Irq, iv j.Priority]) x (eE true 2 0 (f.toNat * 2) (l.mem0 u) P) (wN (.cells ⟨[iv 0, iv 0]⟩ 142 (0, 0)) u ?_))
   intro k av V
   refine wR 1 [(0, .slice i g.length h), (1, .slice d b.length c), (5, iv f), (6, pB k 0), (10, .slice d b.length c), (11, iv (b.length : Int)), (12, iv f), (16, .agg #[iv j.Irq, iv j.Priority])] av (wS true 2 0 (.agg #[iv j.Irq, iv j.Priority]) 0 [iv j.Irq, iv j.Priority] V rfl ?_)
   intro a0 W
   refine W_nil (N_then (G_seq ?_))
   obtain ⟨aq, ai, ah⟩ := gx_bind hm
   refine G_meet (fun a w' => Mem [] w w' [] ∧ Sat Tryz.f160.ntmps [(0, .slice i g.length h), (1, .slice d b.length c), (10, .slice d b.length c), (11, iv (b.length : Int)), (12, iv f), (56, .bool aq)] a) ?_ ?_
   ·have hm := ai
    refine G_quiet (by kernel_rfl) (by kernel_rfl) W (zR [pB k 0] [(0, .slice i g.length h), (1, .slice d b.length c), (5, iv f), (6, pB k 0), (10, .slice d b.length c), (11, iv (b.length : Int)), (12, iv f), (17, pB k 0)] (zV (iv j.Irq) (fun w_ M_ => (eL false 1 0 (M_.blk 0 rfl))) ?_))
    obtain ⟨v, ak, hm⟩ := gx_bind hm
    refine Z_call 144 #[iv j.Irq] (.bool v) (by kernel_rfl) (fun w_ => by kernel_rfl) (fun w_ M_ => (c_i_isIrq w_ j.Irq ak).mono fun e w2_ h_ => ⟨h_.1, M_.call0 h_.2⟩) (zR [.bool (!v), .bool (!v)] [(0, .slice i g.length h), (1, .slice d b.length c), (5, iv f), (6, pB k 0), (10, .slice d b.length c), (11, iv (b.length : Int)), (12, iv f), (21, .bool (!v))] ?_)
    rcases gx_bif hm with ⟨B, hm⟩ | ⟨B, hm⟩
    ·refine zK 21 true B (zR [undef, undef, undef, undef, .bool true, .bool true, undef, undef, undef, undef, undef, .bool true, .bool true, undef, undef, undef, undef, undef, undef, undef, .bool true, .bool true, undef, undef, undef, undef, undef, undef, undef, undef, undef, undef, undef, undef, .bool true] [(0, .slice i g.length h), (1, .slice d b.length c), (10, .slice d b.length c), (11, iv (b.length : Int)), (12, iv f), (56, .bool true)] (Z_end fun a3 X => ?_))
     obtain rfl := Option.some.inj hm
     exact N_meet fun a ha => ⟨X.pk [], ha.s⟩
    refine zK 21 false B (zR [pB k 1] [(0, .slice i g.length h), (1, .slice d b.length c), (5, iv f), (6, pB k 0), (10, .slice d b.length c), (11, iv (b.length : Int)), (12, iv f), (21, .bool false), (22, pB k 1)] (zV (iv j.Priority) (fun w_ M_ => (eL false 1 1 (M_.blk 0 rfl))) ?_))
    obtain ⟨m, al, hm⟩ := gx_bind hm
    refine Z_call 111 #[iv j.Priority] (.bool m) (by kernel_rfl) (fun w_ => by kernel_rfl) (fun w_ M_ => (c_i_isPriority w_ j.Priority al).mono fun e w2_ h_ => ⟨h_.1, M_.call0 h_.2⟩) (zR [.bool (!m), .bool (!m), .bool (!m)] [(0, .slice i g.length h), (1, .slice d b.length c), (5, iv f), (6, pB k 0), (10, .slice d b.length c), (11, iv (b.length : Int)), (12, iv f), (27, .bool (!m))] ?_)
    rcases gx_bif hm with ⟨C, hm⟩ | ⟨C, hm⟩
    ·refine zK 27 true C (zR [undef, undef, undef, undef, undef, .bool true, .bool true, undef, undef, undef, undef, undef, undef, undef, .bool true, .bool true, undef, undef, undef, undef, undef, undef, undef, undef, undef, undef, undef, undef, .bool true] [(0, .slice i g.length h), (1, .slice d b.length c), (10, .slice d b.length c), (11, iv (b.length : Int)), (12, iv f), (56, .bool true)] (Z_end fun a4 Y => ?_))
     obtain rfl := Option.some.inj hm
     exact N_meet fun a ha => ⟨Y.pk [], ha.s⟩
    refine zK 27 false C (zR [.slice i g.length h, pB k 0] [(0, .slice i g.length h), (1, .slice d b.length c), (5, iv f), (6, pB k 0), (10, .slice d b.length c), (11, iv (b.length : Int)), (12, iv f), (27, .bool false), (28, .slice i g.length h), (29, pB k 0)] (zV (iv j.Irq) (fun w_ M_ => (eL false 1 0 (M_.blk 0 rfl))) ?_))
    obtain ⟨n, am, hm⟩ := gx_bind hm
    refine Z_call 165 #[.slice i g.length h, iv j.Irq] (iv n) (by kernel_rfl) (fun w_ => by kernel_rfl) (fun w_ M_ => (c_i_findSlot w_ g i h (L.mem0 M_) j.Irq am).mono fun e w2_ h_ => ⟨h_.1, M_.call0 h_.2⟩) (zR [.bool (decide (n ≥ 0)), .bool (decide (n ≥ 0)), .bool (decide (n ≥ 0))] [(0, .slice i g.length h), (1, .slice d b.length c), (5, iv f), (6, pB k 0), (10, .slice d b.length c), (11, iv (b.length : Int)), (12, iv f), (34, .bool (decide (n ≥ 0)))] ?_)
    rcases gx_bif hm with ⟨D, hm⟩ | ⟨D, hm⟩
    ·refine zK 34 true D (zR [undef, undef, undef, undef, undef, undef, undef, .bool true, .bool true, undef, undef, undef, undef, undef, undef, undef, undef, undef, undef, undef, undef, .bool true] [(0, .slice i g.length h), (1, .slice d b.length c), (10, .slice d b.length c), (11, iv (b.length : Int)), (12, iv f), (56, .bool true)] (Z_end fun a5 Z => ?_))
     obtain rfl := Option.some.inj hm
     exact N_meet fun a ha => ⟨Z.pk [], ha.s⟩
    refine zK 34 false D (zR [.slice d b.length c, iv f] [(0, .slice i g.length h), (1, .slice d b.length c), (5, iv f), (6, pB k 0), (10, .slice d b.length c), (11, iv (b.length : Int)), (12, iv f), (34, .bool false), (35, .slice d b.length c), (36, iv f)] ?_)
    obtain ⟨y, R, hm⟩ := gx_bind hm
    refine zV (.slice (subP d (0 : Int).toNat c 2) y.length (c - (0 : Int).toNat)) (fun w_ M_ => (E_slice (E := encWaiter) _ _ _ _ b.length 0 f rfl (by kernel_rfl) (Or.inl ⟨rfl, rfl⟩) (Or.inr ⟨_, rfl, by kernel_rfl⟩) (by kernel_rfl) (l.mem0 M_) rfl R)) (zR [pB k 0] [(0, .slice i g.length h), (1, .slice d b.length c), (5, iv f), (6, pB k 0), (10, .slice d b.length c), (11, iv (b.length : Int)), (12, iv f), (34, .bool false), (37, .slice (subP d (0 : Int).toNat c 2) y.length (c - (0 : Int).toNat)), (38, pB k 0)] (zV (iv j.Irq) (fun w_ M_ => (eL false 1 0 (M_.blk 0 rfl))) ?_))
    obtain ⟨o, an, hm⟩ := gx_bind hm
    refine Z_call 196 #[.slice (subP d (0 : Int).toNat c 2) y.length (c - (0 : Int).toNat), iv j.Irq] (iv o) (by kernel_rfl) (fun w_ => by kernel_rfl) (fun w_ M_ => (c_i_waiterIndex w_ y (subP d (0 : Int).toNat c 2) (c - (0 : Int).toNat) ((l.mem0 M_).sliceM R) j.Irq an).mono fun e w2_ h_ => ⟨h_.1, M_.call0 h_.2⟩) (zR [.bool (decide (o ≥ 0)), .bool (decide (o ≥ 0)), .bool (decide (o ≥ 0))] [(0, .slice i g.length h), (1, .slice d b.length c), (5, iv f), (6, pB k 0), (10, .slice d b.length c), (11, iv (b.length : Int)), (12, iv f), (43, .bool (decide (o ≥ 0)))] ?_)
    rcases gx_bif hm with ⟨F, hm⟩ | ⟨F, hm⟩
    ·refine zK 43 true F (zR [undef, undef, undef, undef, undef, undef, undef, undef, undef, undef, undef, undef, .bool true] [(0, .slice i g.length h), (1, .slice d b.length c), (10, .slice d b.length c), (11, iv (b.length : Int)), (12, iv f), (56, .bool true)] (Z_end fun a6 aa => ?_))
     obtain rfl := Option.some.inj hm
     exact N_meet fun a ha => ⟨aa.pk [], ha.s⟩
    refine zK 43 false F (zR [iv f, .bool (decide (f > 0)), .bool (decide (f > 0))] [(0, .slice i g.length h), (1, .slice d b.length c), (5, iv f), (6, pB k 0), (10, .slice d b.length c), (11, iv (b.length : Int)), (12, iv f), (43, .bool false), (46, .bool (decide (f > 0)))] ?_)
    rcases gx_bif hm with ⟨G, hm⟩ | ⟨G, hm⟩
    ·refine zK 46 true G (zR [.slice d b.length c, iv f, iv (w64 (f - 1))] [(0, .slice i g.length h), (1, .slice d b.length c), (6, pB k 0), (10, .slice d b.length c), (11, iv (b.length : Int)), (12, iv f), (43, .bool false), (46, .bool true), (47, .slice d b.length c), (49, iv (w64 (f - 1)))] ?_)
     obtain ⟨t, Q, hm⟩ := gx_bind hm
     refine zV (elemP d ((w64 (f - 1)).toNat * 2)) (fun w_ M_ => (eI (l.mem0 M_) rfl Q)) (zV (.agg #[iv t.Irq, iv t.Priority]) (fun w_ M_ => (eE true 2 0 ((w64 (f - 1)).toNat * 2) (l.mem0 M_) Q)) (zV (.agg #[iv j.Irq, iv j.Priority]) (fun w_ M_ => (eL true 2 0 (M_.blk 0 rfl))) ?_))
     obtain ⟨q, ao, hm⟩ := gx_bind hm
     refine Z_call 129 #[.agg #[iv t.Irq, iv t.Priority], .agg #[iv j.Irq, iv j.Priority]] (iv q) (by kernel_rfl) (fun w_ => by kernel_rfl) (fun w_ M_ => (c_i_compareUrgency w_ t j ao).mono fun e w2_ h_ => ⟨h_.1, M_.call0 h_.2⟩) (zR [.bool (decide (q ≥ 0)), .bool (decide (q ≥ 0)), .bool (decide (q ≥ 0))] [(0, .slice i g.length h), (1, .slice d b.length c), (10, .slice d b.length c), (11, iv (b.length : Int)), (12, iv f), (56, .bool (decide (q ≥ 0)))] (Z_end fun a7 ab => ?_))
     obtain rfl := Option.some.inj hm
     exact N_meet fun a ha => ⟨ab.pk [], ha.s⟩
    refine zK 46 false G (zR [undef, undef, undef, undef, undef, undef, undef, undef, .bool false, .bool false] [(0, .slice i g.length h), (1, .slice d b.length c), (10, .slice d b.length c), (11, iv (b.length : Int)), (12, iv f), (56, .bool false)] (Z_end fun a8 ac => ?_))
    obtain rfl := Option.some.inj hm
    exact N_meet fun a ha => ⟨ac.pk [], ha.s⟩
   intro ay T ⟨K, af⟩
   refine N_use af ?_
   have hm := ah
   refine N_then ?_
   rcases gx_bif hm with ⟨H, hm⟩ | ⟨H, hm⟩
   ·refine gT H (G_seq (G_region (wR 1 [(4, .bool false)] T (W_nil (N_then (G_ret (N_block_ret (N_then_ret (N_then_ret ?_)))))))))
    obtain rfl := Option.some.inj hm
    obtain rfl := O _ rfl
    have hm := N; simp only [Sum.elim_inr] at hm
    refine N_block_ret (N_meet_ret (N_then_ret ?_))
    obtain rfl := Option.some.inj hm
    exact N_ret [.bool false] (rC RVs_nil) (⟨rfl, K.pk []⟩)
   refine gF H (G_skip (N_block (N_then (G_region (wR 2 [(0, .slice i g.length h), (1, .slice d b.length c), (10, .slice d b.length c), (11, iv (b.length : Int)), (12, iv (w64 (f + 1)))] T (W_nil ?_))))))
   obtain rfl := Option.some.inj hm
   exact N_loop fun a ha => ⟨_, rfl, K.pk [], ha.s⟩
  refine gF A (G_exit (N_then_exit (N_then_exit (N_block_eq ?_))))
  obtain rfl := Option.some.inj hm
  obtain rfl := O _ rfl
  exact N_meet fun a ha => ⟨_, rfl, u.pk [], ha.s⟩
 intro az aw ⟨S, hout_, ad, ag⟩
 refine N_use ag ?_
 subst hout_
 have hm := N; simp only [Sum.elim_inl] at hm
 refine N_then (G_seq (G_region (wR 1 [(4, .bool true)] aw (W_nil (N_then (G_ret ?_))))))
 obtain rfl := Option.some.inj hm
 exact N_ret [.bool true] (rC RVs_nil) (⟨rfl, ad.pk []⟩)
theorem c_i_waiterOf (w : World) (a : Slot) {r : Waiter} (hm : M.i_waiterOf a = some r) :
  Calls Tryz.prog 119 #[.agg #[iv a.State, iv a.Irq, iv a.Priority]] w fun e w' => e = .returned (.agg #[iv r.Irq, iv r.Priority]) ∧ Mem [] w w' [] := by
 unfold M.i_waiterOf at hm
 refine cE Tryz.func119 ?_
 have M0 := Mem.refl [] w
 refine G_seq (G_region (wN (.cells ⟨[iv a.State, iv a.Irq, iv a.Priority]⟩ 117 (0, 0)) M0 ?_))
 intro h l j
 refine wN (.cells ⟨[iv 0, iv 0]⟩ 142 (0, 0)) j ?_
 intro c d f
 refine W_nil (N_then (G_seq (G_region (wR 1 [(1, pB h 0), (2, pB c 0), (3, pB h 1)] d (wV (iv a.Irq) d (eL false 1 1 (f.blk 0 rfl)) (wR 1 [(2, pB c 0), (4, iv a.Irq), (5, pB h 2)] d (wV (iv a.Priority) d (eL false 1 2 (f.blk 0 rfl)) (wR 1 [(2, pB c 0), (7, .agg #[iv a.Irq, iv a.Priority])] d (wS true 2 0 (.agg #[iv a.Irq, iv a.Priority]) 1 [iv a.Irq, iv a.Priority] f rfl ?_)))))))))
 intro m i
 refine W_nil (N_then (G_ret ?_))
 obtain rfl := Option.some.inj hm
 exact N_ret [.agg #[iv a.Irq, iv a.Priority]] (RVs_cons (RV_cell (g := true) (k := 2) (b := c) (off := 0) (cs := [iv a.Irq, iv a.Priority]) (e := 142) (fr := (0, 0)) (v := .agg #[iv a.Irq, iv a.Priority]) (i.blk 1 (b := c) (o := .cells ⟨[iv a.Irq, iv a.Priority]⟩ 142 (0, 0)) (by kernel_rfl)) (by kernel_rfl) (by kernel_rfl) (by kernel_rfl)) RVs_nil) (⟨rfl, i.pk []⟩)
theorem c_i_pendingSlot (w : World) (b : List Slot) (d : Option Addr) (f : Nat) (o : rdS encSlot w b d f) (g : Bool) {r : Int} (hm : M.i_pendingSlot b g = some r) :
  Calls Tryz.prog 197 #[.slice d b.length f, .bool g] w fun e w' => e = .returned (iv r) ∧ Mem [] w w' [] := by
 unfold M.i_pendingSlot at hm
 refine cE Tryz.func197 ?_
 have M0 := Mem.refl [] w
 refine G_seq (G_region (wR 1 [(0, .slice d b.length f), (1, .bool g)] w (W_nil (N_then (G_seq (G_region (wR 1 [(0, .slice d b.length f), (1, .bool g), (5, iv (-1))] w (W_nil (N_then (G_seq (G_seq (G_region (wR 3 [(0, .slice d b.length f), (1, .bool g), (5, iv (-1)), (8, .slice d b.length f), (9, iv (b.length : Int)), (10, iv 0)] w (W_nil (N_then ?_)))))))))))))))
 obtain ⟨y, Y, R⟩ := gx_bind hm
 refine G_meet (fun a w' => Mem [] w w' [] ∧ Sat Tryz.f197.ntmps [(5, iv y)] a) ?_ ?_
 ·refine G_block (G_while (σ := Int × Int) (ρ := Int) (fun c a w' => Mem [] w w' [] ∧ Sat Tryz.f197.ntmps [(0, .slice d b.length f), (1, .bool g), (5, iv c.1), (8, .slice d b.length f), (9, iv (b.length : Int)), (10, iv c.2)] a) Y (fun a ha => ⟨M0.pk [], ha.s⟩) ?_)
  clear hm
  intro c am hm U ae q ⟨n, K⟩
  refine G_use K (G_seq (G_region (wR 1 [(0, .slice d b.length f), (1, .bool g), (5, iv c.1), (8, .slice d b.length f), (9, iv (b.length : Int)), (10, iv c.2), (11, .bool (decide (c.2 < (b.length : Int))))] q (W_nil (N_then (G_seq ?_))))))
  rcases gx_bif hm with ⟨t, hm⟩ | ⟨t, hm⟩
  ·refine gT t (G_skip (N_then (G_seq (G_block (G_seq (G_region (wR 1 [(0, .slice d b.length f), (1, .bool g), (5, iv c.1), (8, .slice d b.length f), (9, iv (b.length : Int)), (10, iv c.2), (12, iv c.2)] q ?_)))))))
   obtain ⟨h, A, hm⟩ := gx_bind hm
   refine wV (elemP d (c.2.toNat * 3)) q (eI (o.mem0 n) rfl A) (wV (.agg #[iv h.State, iv h.Irq, iv h.Priority]) q (eE true 3 0 (c.2.toNat * 3) (o.mem0 n) A) (wN (.cells ⟨[iv 0, iv 0, iv 0]⟩ 117 (0, 0)) n ?_))
   intro k aa D
   refine wR 1 [(0, .slice d b.length f), (1, .bool g), (5, iv c.1), (6, iv c.2), (7, pB k 0), (8, .slice d b.length f), (9, iv (b.length : Int)), (10, iv c.2), (14, .agg #[iv h.State, iv h.Irq, iv h.Priority])] aa (wS true 3 0 (.agg #[iv h.State, iv h.Irq, iv h.Priority]) 0 [iv h.State, iv h.Irq, iv h.Priority] D rfl ?_)
   intro ai E
   refine W_nil (N_then (G_seq ?_))
   obtain ⟨Z, S, P⟩ := gx_bind hm
   refine G_meet (fun a w' => Mem [] w w' [] ∧ Sat Tryz.f197.ntmps [(0, .slice d b.length f), (1, .bool g), (5, iv c.1), (6, iv c.2), (8, .slice d b.length f), (9, iv (b.length : Int)), (10, iv c.2), (34, .bool Z)] a) ?_ ?_
   ·have hm := S
    refine G_quiet (by kernel_rfl) (by kernel_rfl) E (zR [pB k 0] [(0, .slice d b.length f), (1, .bool g), (5, iv c.1), (6, iv c.2), (7, pB k 0), (8, .slice d b.length f), (9, iv (b.length : Int)), (10, iv c.2), (15, pB k 0)] (zV (iv h.State) (fun w_ M_ => (eL false 1 0 (M_.blk 0 rfl))) (zR [.bool (h.State == 1), .bool (h.State == 1)] [(0, .slice d b.length f), (1, .bool g), (5, iv c.1), (6, iv c.2), (7, pB k 0), (8, .slice d b.length f), (9, iv (b.length : Int)), (10, iv c.2), (18, .bool (h.State == 1))] ?_)))
    rcases gx_bif hm with ⟨u, hm⟩ | ⟨u, hm⟩
    ·refine zK 18 true u (zR [iv c.1, .bool (decide (c.1 < 0)), .bool (decide (c.1 < 0))] [(0, .slice d b.length f), (1, .bool g), (5, iv c.1), (6, iv c.2), (7, pB k 0), (8, .slice d b.length f), (9, iv (b.length : Int)), (10, iv c.2), (18, .bool true), (21, .bool (decide (c.1 < 0)))] ?_)
     rcases gx_bif hm with ⟨v, hm⟩ | ⟨v, hm⟩
     ·refine zK 21 true v (zR [undef, undef, undef, undef, undef, undef, undef, undef, undef, undef, undef, .bool true, .bool true] [(0, .slice d b.length f), (1, .bool g), (5, iv c.1), (6, iv c.2), (8, .slice d b.length f), (9, iv (b.length : Int)), (10, iv c.2), (34, .bool true)] (Z_end fun aj F => ?_))
      obtain rfl := Option.some.inj hm
      exact N_meet fun a ha => ⟨F.pk [], ha.s⟩
     refine zK 21 false v (zV (.agg #[iv h.State, iv h.Irq, iv h.Priority]) (fun w_ M_ => (eL true 3 0 (M_.blk 0 rfl))) ?_)
     obtain ⟨i, V, hm⟩ := gx_bind hm
     refine Z_call 119 #[.agg #[iv h.State, iv h.Irq, iv h.Priority]] (.agg #[iv i.Irq, iv i.Priority]) (by kernel_rfl) (fun w_ => by kernel_rfl) (fun w_ M_ => (c_i_waiterOf w_ h V).mono fun e w2_ h_ => ⟨h_.1, M_.call0 h_.2⟩) (zR [.slice d b.length f, iv c.1] [(0, .slice d b.length f), (1, .bool g), (5, iv c.1), (6, iv c.2), (8, .slice d b.length f), (9, iv (b.length : Int)), (10, iv c.2), (18, .bool true), (21, .bool false), (23, .agg #[iv i.Irq, iv i.Priority]), (24, .slice d b.length f), (25, iv c.1)] ?_)
     obtain ⟨j, B, hm⟩ := gx_bind hm
     refine zV (elemP d (c.1.toNat * 3)) (fun w_ M_ => (eI (o.mem0 M_) rfl B)) (zV (.agg #[iv j.State, iv j.Irq, iv j.Priority]) (fun w_ M_ => (eE true 3 0 (c.1.toNat * 3) (o.mem0 M_) B)) ?_)
     obtain ⟨m, W, hm⟩ := gx_bind hm
     refine Z_call 119 #[.agg #[iv j.State, iv j.Irq, iv j.Priority]] (.agg #[iv m.Irq, iv m.Priority]) (by kernel_rfl) (fun w_ => by kernel_rfl) (fun w_ M_ => (c_i_waiterOf w_ j W).mono fun e w2_ h_ => ⟨h_.1, M_.call0 h_.2⟩) ?_
     obtain ⟨l, X, hm⟩ := gx_bind hm
     refine Z_call 129 #[.agg #[iv i.Irq, iv i.Priority], .agg #[iv m.Irq, iv m.Priority]] (iv l) (by kernel_rfl) (fun w_ => by kernel_rfl) (fun w_ M_ => (c_i_compareUrgency w_ i m X).mono fun e w2_ h_ => ⟨h_.1, M_.call0 h_.2⟩) (zR [.bool (decide (l < 0)), .bool g, .bool ((decide (l < 0)) == g), .bool ((decide (l < 0)) == g), .bool ((decide (l < 0)) == g)] [(0, .slice d b.length f), (1, .bool g), (5, iv c.1), (6, iv c.2), (8, .slice d b.length f), (9, iv (b.length : Int)), (10, iv c.2), (34, .bool ((decide (l < 0)) == g))] (Z_end fun ak G => ?_))
     obtain rfl := Option.some.inj hm
     exact N_meet fun a ha => ⟨G.pk [], ha.s⟩
    refine zK 18 false u (zR [undef, undef, undef, undef, undef, undef, undef, undef, undef, undef, undef, undef, undef, undef, undef, .bool false] [(0, .slice d b.length f), (1, .bool g), (5, iv c.1), (6, iv c.2), (8, .slice d b.length f), (9, iv (b.length : Int)), (10, iv c.2), (34, .bool false)] (Z_end fun al H => ?_))
    obtain rfl := Option.some.inj hm
    exact N_meet fun a ha => ⟨H.pk [], ha.s⟩
   intro af ab ⟨z, L⟩
   refine N_use L ?_
   have hm := P
   refine N_then ?_
   obtain ⟨C, T, Q⟩ := gx_bind hm
   refine G_meet (fun a w' => Mem [] w w' [] ∧ Sat Tryz.f197.ntmps [(0, .slice d b.length f), (1, .bool g), (5, iv C), (8, .slice d b.length f), (9, iv (b.length : Int)), (10, iv c.2)] a) ?_ ?_
   ·have hm := T
    rcases gx_bif hm with ⟨x, hm⟩ | ⟨x, hm⟩
    ·refine gT x (G_region (wR 2 [(0, .slice d b.length f), (1, .bool g), (5, iv c.2), (8, .slice d b.length f), (9, iv (b.length : Int)), (10, iv c.2)] ab (W_nil ?_)))
     obtain rfl := Option.some.inj hm
     exact N_meet fun a ha => ⟨z.pk [], ha.s⟩
    refine gF x (G_skip ?_)
    obtain rfl := Option.some.inj hm
    exact N_meet fun a ha => ⟨z.pk [], ha.s⟩
   intro ag ac ⟨I, N⟩
   refine N_use N ?_
   have hm := Q
   refine N_block (N_then (G_region (wR 2 [(0, .slice d b.length f), (1, .bool g), (5, iv C), (8, .slice d b.length f), (9, iv (b.length : Int)), (10, iv (w64 (c.2 + 1)))] ac (W_nil ?_))))
   obtain rfl := Option.some.inj hm
   exact N_loop fun a ha => ⟨_, rfl, I.pk [], ha.s⟩
  refine gF t (G_exit (N_then_exit (N_then_exit (N_block_eq ?_))))
  obtain rfl := Option.some.inj hm
  obtain rfl := U _ rfl
  exact N_meet fun a ha => ⟨n.pk [], ha.s⟩
 intro ah ad ⟨J, O⟩
 refine N_use O ?_
 have hm := R
 refine N_then (G_seq (G_region (wR 2 [(4, iv y)] ad (W_nil (N_then (G_ret ?_))))))
 obtain rfl := Option.some.inj hm
 exact N_ret [iv y] (rC RVs_nil) (⟨rfl, J.pk []⟩)
theorem c_i_firstEmpty_1 (w : World) (a : Slot) {r : Bool} (hm : M.i_firstEmpty_1 a = some r) :
  Calls Tryz.prog 240 #[.agg #[iv a.State, iv a.Irq, iv a.Priority]] w fun e w' => e = .returned (.bool r) ∧ Mem [] w w' [] := by
 unfold M.i_firstEmpty_1 at hm
 refine cE Tryz.func240 ?_
 have M0 := Mem.refl [] w
 refine G_seq (G_region (wN (.cells ⟨[iv a.State, iv a.Irq, iv a.Priority]⟩ 117 (0, 0)) M0 ?_))
 intro d b c
 refine wR 1 [(1, pB d 0)] b (W_nil (N_then (G_seq (G_region (wR 1 [(3, pB d 0)] b (wV (iv a.State) b (eL false 1 0 (c.blk 0 rfl)) (wR 2 [(2, .bool (a.State == 0))] b (W_nil (N_then (G_ret ?_))))))))))
 obtain rfl := Option.some.inj hm
 exact N_ret [.bool (a.State == 0)] (rC RVs_nil) (⟨rfl, c.pk []⟩)
theorem c_slices_IndexFunc_210__i_firstEmpty_1 (w : World) (b : List Slot) (d : Option Addr) (f : Nat) (m : rdS encSlot w b d f) {r : Int} (hm : M.slices_IndexFunc_210__i_firstEmpty_1 b = some r) :
  Calls Tryz.prog 210 #[.slice d b.length f, .func (.func 240) #[] #[]] w fun e w' => e = .returned (iv r) ∧ Mem [] w w' [] := by
 unfold M.slices_IndexFunc_210__i_firstEmpty_1 at hm
 refine cE Tryz.func210 ?_
 have M0 := Mem.refl [] w
 refine G_seq (G_region (wR 1 [(0, .slice d b.length f), (1, .func (.func 240) #[] #[])] w (W_nil (N_then (G_seq (G_seq (G_region (wR 3 [(0, .slice d b.length f), (1, .func (.func 240) #[] #[]), (7, iv (b.length : Int)), (8, iv 0)] w (W_nil (N_then ?_))))))))))
 obtain ⟨C, B, n⟩ := gx_bind hm
 refine G_meet (fun a w' => ∃ (t : Unit), C = .inl t ∧ Mem [] w w' [] ∧ Sat Tryz.f210.ntmps [] a) ?_ ?_
 ·refine G_block (G_while (σ := Int) (ρ := (Unit) ⊕ (Int)) (fun c a w' => Mem [] w w' [] ∧ Sat Tryz.f210.ntmps [(0, .slice d b.length f), (1, .func (.func 240) #[] #[]), (7, iv (b.length : Int)), (8, iv c)] a) B (fun a ha => ⟨M0.pk [], ha.s⟩) ?_)
  clear hm
  intro c H hm o E h ⟨i, y⟩
  refine G_use y (G_seq (G_region (wR 1 [(0, .slice d b.length f), (1, .func (.func 240) #[] #[]), (7, iv (b.length : Int)), (8, iv c), (9, .bool (decide (c < (b.length : Int))))] h (W_nil (N_then (G_seq ?_))))))
  rcases gx_bif hm with ⟨j, hm⟩ | ⟨j, hm⟩
  ·refine gT j (G_skip (N_then (G_seq (G_block (G_seq (G_region (wR 2 [(0, .slice d b.length f), (1, .func (.func 240) #[] #[]), (5, iv c), (7, iv (b.length : Int)), (8, iv c)] h (W_nil (N_then (G_seq (G_region (wR 3 [(0, .slice d b.length f), (1, .func (.func 240) #[] #[]), (5, iv c), (7, iv (b.length : Int)), (8, iv c), (11, .func (.func 240) #[] #[]), (12, .slice d b.length f), (13, iv c)] h ?_))))))))))))
   obtain ⟨g, q, hm⟩ := gx_bind hm
   refine wV (elemP d (c.toNat * 3)) h (eI (m.mem0 i) rfl q) (wV (.agg #[iv g.State, iv g.Irq, iv g.Priority]) h (eE true 3 0 (c.toNat * 3) (m.mem0 i) q) ?_)
   obtain ⟨G, A, hm⟩ := gx_bind hm
   refine wC 240 #[.agg #[iv g.State, iv g.Irq, iv g.Priority]] ((c_i_firstEmpty_1 h g A).mono ?_)
   rintro e_ u ⟨rfl, v⟩
   have l := i.call0 v
   refine ⟨_, rfl, ?_⟩
   refine W_nil (N_then ?_)
   rcases gx_bif hm with ⟨k, hm⟩ | ⟨k, hm⟩
   ·refine gT k (G_seq (G_region (wR 2 [(4, iv c)] u (W_nil (N_then (G_ret (N_block_ret (N_then_ret (N_then_ret ?_)))))))))
    obtain rfl := Option.some.inj hm
    obtain rfl := o _ rfl
    have hm := n; simp only [Sum.elim_inr] at hm
    refine N_block_ret (N_meet_ret (N_then_ret ?_))
    obtain rfl := Option.some.inj hm
    exact N_ret [iv c] (rC RVs_nil) (⟨rfl, l.pk []⟩)
   refine gF k (G_skip (N_block (N_then (G_region (wR 2 [(0, .slice d b.length f), (1, .func (.func 240) #[] #[]), (7, iv (b.length : Int)), (8, iv (w64 (c + 1)))] u (W_nil ?_))))))
   obtain rfl := Option.some.inj hm
   exact N_loop fun a ha => ⟨_, rfl, l.pk [], ha.s⟩
  refine gF j (G_exit (N_then_exit (N_then_exit (N_block_eq ?_))))
  obtain rfl := Option.some.inj hm
  obtain rfl := o _ rfl
  exact N_meet fun a ha => ⟨_, rfl, i.pk [], ha.s⟩
 intro F D ⟨t, hout_, x, z⟩
 refine N_use z ?_
 subst hout_
 have hm := n; simp only [Sum.elim_inl] at hm
 refine N_then (G_seq (G_region (wR 1 [(4, iv (-1))] D (W_nil (N_then (G_ret ?_))))))
 obtain rfl := Option.some.inj hm
 exact N_ret [iv (-1)] (rC RVs_nil) (⟨rfl, x.pk []⟩)
theorem c_i_firstEmpty (w : World) (a : List Slot) (c : Option Addr) (b : Nat) (h : rdS encSlot w a c b) {r : Int} (hm : M.i_firstEmpty a = some r) :
  Calls Tryz.prog 198 #[.slice c a.length b] w fun e w' => e = .returned (iv r) ∧ Mem [] w w' [] := by
 unfold M.i_firstEmpty at hm
 refine cE Tryz.func198 ?_
 have M0 := Mem.refl [] w
 refine G_seq (G_region (wR 1 [(0, .slice c a.length b)] w (W_nil (N_then (G_seq (G_region (wR 1 [(3, .slice c a.length b)] w ?_)))))))
 obtain ⟨d, i, hm⟩ := gx_bind hm
 refine wC 210 #[.slice c a.length b, .func (.func 240) #[] #[]] ((c_slices_IndexFunc_210__i_firstEmpty_1 w a c b (h.mem0 M0) i).mono ?_)
 rintro e_ j ⟨rfl, f⟩
 have g := M0.call0 f
 refine ⟨_, rfl, ?_⟩
 refine wR 1 [(2, iv d)] j (W_nil (N_then (G_ret ?_)))
 obtain rfl := Option.some.inj hm
 exact N_ret [iv d] (rC RVs_nil) (⟨rfl, g.pk []⟩)
theorem c_i_isSettled (w : World) (b : Queue) (f : Option Addr) (g : Nat) (q : rdS encSlot w b.Slots f g) (k : Option Addr) (n : Nat) (y : rdS encWaiter w b.Waiting k n) {r : Bool} (hm : M.i_isSettled b = some r) :
  Calls Tryz.prog 161 #[.agg #[.slice f b.Slots.length g, .slice k b.Waiting.length n]] w fun e w' => e = .returned (.bool r) ∧ Mem [] w w' [] := by
 unfold M.i_isSettled at hm
 refine cE Tryz.func161 ?_
 have M0 := Mem.refl [] w
 refine G_seq (G_region (wN (.cells ⟨[.slice f b.Slots.length g, .slice k b.Waiting.length n]⟩ 85 (0, 0)) M0 ?_))
 intro c i m
 refine wR 1 [(1, pB c 0)] i (W_nil (N_then (G_seq (G_seq (G_region (wR 1 [(1, pB c 0), (4, pB c 1)] i (wV (.slice k b.Waiting.length n) i (eL false 1 1 (m.blk 0 rfl)) (wR 2 [(1, pB c 0), (7, .bool ((b.Waiting.length : Int) == 0))] i (W_nil (N_then ?_))))))))))
 rcases gx_bif hm with ⟨u, hm⟩ | ⟨u, hm⟩
 ·refine gT u (G_seq (G_region (wR 1 [(2, .bool true)] i (W_nil (N_then (G_ret (N_then_ret ?_)))))))
  obtain rfl := Option.some.inj hm
  exact N_ret [.bool true] (rC RVs_nil) (⟨rfl, m.pk []⟩)
 refine gF u (G_skip (N_then (G_seq (G_region (wR 1 [(1, pB c 0), (8, pB c 0)] i (wV (.slice f b.Slots.length g) i (eL false 1 0 (m.blk 0 rfl)) ?_))))))
 obtain ⟨d, L, hm⟩ := gx_bind hm
 refine wC 197 #[.slice f b.Slots.length g, .bool false] ((c_i_pendingSlot i b.Slots f g (q.mem0 m) false L).mono ?_)
 rintro e_ Q ⟨rfl, C⟩
 have D := m.call0 C
 refine ⟨_, rfl, ?_⟩
 refine wR 1 [(1, pB c 0), (3, iv d)] Q (W_nil (N_then (G_seq ?_)))
 obtain ⟨B, K, J⟩ := gx_bind hm
 refine G_meet (fun a w' => Mem [] w w' [] ∧ Sat Tryz.f161.ntmps [(2, .bool B)] a) ?_ ?_
 ·have hm := K
  refine G_quiet (by kernel_rfl) (by kernel_rfl) D (zR [pB c 0] [(1, pB c 0), (3, iv d), (11, pB c 0)] (zV (.slice f b.Slots.length g) (fun w_ M_ => (eL false 1 0 (M_.blk 0 rfl))) ?_))
  obtain ⟨t, N, hm⟩ := gx_bind hm
  refine Z_call 198 #[.slice f b.Slots.length g] (iv t) (by kernel_rfl) (fun w_ => by kernel_rfl) (fun w_ M_ => (c_i_firstEmpty w_ b.Slots f g (q.mem0 M_) N).mono fun e w2_ h_ => ⟨h_.1, M_.call0 h_.2⟩) (zR [.bool (decide (t < 0)), .bool (decide (t < 0))] [(1, pB c 0), (3, iv d), (15, .bool (decide (t < 0)))] ?_)
  rcases gx_bif hm with ⟨v, hm⟩ | ⟨v, hm⟩
  ·refine zK 15 true v (zR [iv d, .bool (decide (d < 0)), .bool (decide (d < 0))] [(1, pB c 0), (3, iv d), (15, .bool true), (18, .bool (decide (d < 0)))] ?_)
   rcases gx_bif hm with ⟨x, hm⟩ | ⟨x, hm⟩
   ·refine zK 18 true x (zR [undef, undef, undef, undef, undef, undef, undef, undef, undef, undef, undef, undef, .bool true, .bool true, .bool true] [(2, .bool true)] (Z_end fun S E => ?_))
    obtain rfl := Option.some.inj hm
    exact N_meet fun a ha => ⟨E.pk [], ha.s⟩
   refine zK 18 false x (zR [pB c 1] [(1, pB c 0), (3, iv d), (15, .bool true), (18, .bool false), (19, pB c 1)] (zV (.slice k b.Waiting.length n) (fun w_ M_ => (eL false 1 1 (M_.blk 0 rfl))) ?_))
   obtain ⟨h, z, hm⟩ := gx_bind hm
   refine zV (elemP k ((0 : Int).toNat * 2)) (fun w_ M_ => (eI (y.mem0 M_) rfl z)) (zV (.agg #[iv h.Irq, iv h.Priority]) (fun w_ M_ => (eE true 2 0 ((0 : Int).toNat * 2) (y.mem0 M_) z)) (zR [pB c 0] [(3, iv d), (15, .bool true), (18, .bool false), (22, .agg #[iv h.Irq, iv h.Priority]), (23, pB c 0)] (zV (.slice f b.Slots.length g) (fun w_ M_ => (eL false 1 0 (M_.blk 0 rfl))) (zR [iv d] [(15, .bool true), (18, .bool false), (22, .agg #[iv h.Irq, iv h.Priority]), (24, .slice f b.Slots.length g), (25, iv d)] ?_))))
   obtain ⟨j, A, hm⟩ := gx_bind hm
   refine zV (elemP f (d.toNat * 3)) (fun w_ M_ => (eI (q.mem0 M_) rfl A)) (zV (.agg #[iv j.State, iv j.Irq, iv j.Priority]) (fun w_ M_ => (eE true 3 0 (d.toNat * 3) (q.mem0 M_) A)) ?_)
   obtain ⟨o, O, hm⟩ := gx_bind hm
   refine Z_call 119 #[.agg #[iv j.State, iv j.Irq, iv j.Priority]] (.agg #[iv o.Irq, iv o.Priority]) (by kernel_rfl) (fun w_ => by kernel_rfl) (fun w_ M_ => (c_i_waiterOf w_ j O).mono fun e w2_ h_ => ⟨h_.1, M_.call0 h_.2⟩) ?_
   obtain ⟨l, P, hm⟩ := gx_bind hm
   refine Z_call 129 #[.agg #[iv h.Irq, iv h.Priority], .agg #[iv o.Irq, iv o.Priority]] (iv l) (by kernel_rfl) (fun w_ => by kernel_rfl) (fun w_ M_ => (c_i_compareUrgency w_ h o P).mono fun e w2_ h_ => ⟨h_.1, M_.call0 h_.2⟩) (zR [.bool (decide (l > 0)), .bool (decide (l > 0)), .bool (decide (l > 0)), .bool (decide (l > 0))] [(2, .bool (decide (l > 0)))] (Z_end fun T F => ?_))
   obtain rfl := Option.some.inj hm
   exact N_meet fun a ha => ⟨F.pk [], ha.s⟩
  refine zK 15 false v (zR [undef, undef, undef, undef, undef, undef, undef, undef, undef, undef, undef, undef, undef, undef, undef, undef, .bool false, .bool false] [(2, .bool false)] (Z_end fun U G => ?_))
  obtain rfl := Option.some.inj hm
  exact N_meet fun a ha => ⟨G.pk [], ha.s⟩
 intro R V ⟨H, I⟩
 refine N_use I ?_
 have hm := J
 refine N_then (G_ret ?_)
 obtain rfl := Option.some.inj hm
 exact N_ret [.bool B] (rC RVs_nil) (⟨rfl, H.pk []⟩)
theorem c_i_IsQueue (w : World) (b : Queue) (d : Option Addr) (c : Nat) (n : rdS encSlot w b.Slots d c) (g : Option Addr) (f : Nat) (o : rdS encWaiter w b.Waiting g f) {r : Bool} (hm : M.i_IsQueue b = some r) :
  Calls Tryz.prog 113 #[.agg #[.slice d b.Slots.length c, .slice g b.Waiting.length f]] w fun e w' => e = .returned (.bool r) ∧ Mem [] w w' [] := by
 unfold M.i_IsQueue at hm
 refine cE Tryz.func113 ?_
 have M0 := Mem.refl [] w
 refine G_seq (G_region (wN (.cells ⟨[.slice d b.Slots.length c, .slice g b.Waiting.length f]⟩ 85 (0, 0)) M0 ?_))
 intro h i j
 refine wR 1 [(1, pB h 0)] i (W_nil (N_then (G_seq ?_)))
 obtain ⟨q, A, z⟩ := gx_bind hm
 refine G_meet (fun a w' => Mem [] w w' [] ∧ Sat Tryz.f113.ntmps [(2, .bool q)] a) ?_ ?_
 ·have hm := A
  refine G_region (wR 1 [(1, pB h 0), (3, pB h 0)] i (wV (.slice d b.Slots.length c) i (eL false 1 0 (j.blk 0 rfl)) (wR 1 [(1, pB h 0), (4, .slice d b.Slots.length c), (5, pB h 1)] i (wV (.slice g b.Waiting.length f) i (eL false 1 1 (j.blk 0 rfl)) ?_))))
  obtain ⟨D, B, hm⟩ := gx_bind hm
  refine wC 160 #[.slice d b.Slots.length c, .slice g b.Waiting.length f] ((c_i_areParts i b.Slots d c (n.mem0 j) b.Waiting g f (o.mem0 j) B).mono ?_)
  rintro e_ l ⟨rfl, t⟩
  have k := j.call0 t
  refine ⟨_, rfl, ?_⟩
  refine wR 1 [(1, pB h 0), (8, .bool D)] l ?_
  rcases gx_bif hm with ⟨m, hm⟩ | ⟨m, hm⟩
  ·refine wK 8 true m (wV (.agg #[.slice d b.Slots.length c, .slice g b.Waiting.length f]) l (eL true 2 0 (k.blk 0 rfl)) ?_)
   obtain ⟨E, C, hm⟩ := gx_bind hm
   refine wC 161 #[.agg #[.slice d b.Slots.length c, .slice g b.Waiting.length f]] ((c_i_isSettled l b d c (n.mem0 k) g f (o.mem0 k) C).mono ?_)
   rintro e_ F ⟨rfl, u⟩
   have v := k.call0 u
   refine ⟨_, rfl, ?_⟩
   refine wR 2 [(2, .bool E)] F (W_nil ?_)
   obtain rfl := Option.some.inj hm
   exact N_meet fun a ha => ⟨v.pk [], ha.s⟩
  refine wK 8 false m (wR 4 [(2, .bool false)] l (W_nil ?_))
  obtain rfl := Option.some.inj hm
  exact N_meet fun a ha => ⟨k.pk [], ha.s⟩
 intro G H ⟨x, y⟩
 refine N_use y ?_
 have hm := z
 refine N_then (G_ret ?_)
 obtain rfl := Option.some.inj hm
 exact N_ret [.bool q] (rC RVs_nil) (⟨rfl, x.pk []⟩)
theorem c_i_copyInts (w : World) (a : List Int) (c : Option Addr) (b : Nat) (n : rdS Gx.encI w a c b) {r : (List Int)} (hm : M.i_copyInts a = some r) :
  Calls Tryz.prog 67 #[.slice c a.length b] w fun e w' => ∃ (j : Option Addr) (i : Nat) (k : Seg), e = .returned (.slice j r.length i) ∧ ownS Gx.encI r j i k ∧ Mem [] w w' [k] := by
 unfold M.i_copyInts at hm
 refine cE Tryz.func67 ?_
 have M0 := Mem.refl [] w
 refine G_seq (G_region (wR 1 [(0, .slice c a.length b)] w (W_nil (N_then (G_seq (G_region (wL (E := Gx.encI) ([] : List Int) 0 [] 3 M0 ?_)))))))
 intro u m z x q g
 refine wR 1 [(3, .slice u ([] : List Int).length m), (4, .slice c a.length b)] x ?_
 obtain ⟨h, o, hm⟩ := gx_bind hm
 refine wA 8 [iv 0] 0 g q (n.mem0 g) o ?_
 intro f d v y t l
 refine wR 1 [(2, .slice f h.length d)] y (W_nil (N_then (G_ret ?_)))
 obtain rfl := Option.some.inj hm
 exact N_ret [.slice f h.length d] (rC RVs_nil) (⟨f, d, v, rfl, t, l.pk [0]⟩)
theorem c_slices_Sort_114 (w : World) (b : List Int) (d : Option Addr) (c : Nat) (a : Seg) (g : ownS Gx.encI b d c a) (hA : ∀ q ∈ List.flatten [a], w.heap[q.1]? = some q.2) (hN : (idsOf [a]).Nodup) {r : (List Int)} (hm : M.slices_Sort_114 b = some r) :
  Calls Tryz.prog 114 #[.slice d b.length c] w fun e w' => ∃ (f : Seg), e = .returned (.tuple #[]) ∧ ownS Gx.encI r d c f ∧ r.length = b.length ∧ Mem (idsOf [a]) w w' [f] := by
 unfold M.slices_Sort_114 at hm
 rcases gx_bif hm with ⟨h, hm⟩ | ⟨h, hm⟩
 ·obtain rfl := Option.some.inj hm
  exact sortI_run Tryz.slices_Sort_int Tryz.slices_Sort_int_none w b d c a g hA hN (of_decide_eq_true h)
 cases hm
theorem c_i_isActive (w : World) (b : Slot) {r : Bool} (hm : M.i_isActive b = some r) :
  Calls Tryz.prog 164 #[.agg #[iv b.State, iv b.Irq, iv b.Priority]] w fun e w' => e = .returned (.bool r) ∧ Mem [] w w' [] := by
 unfold M.i_isActive at hm
 refine cE Tryz.func164 ?_
 have M0 := Mem.refl [] w
 refine G_seq (G_region (wN (.cells ⟨[iv b.State, iv b.Irq, iv b.Priority]⟩ 117 (0, 0)) M0 ?_))
 intro d c f
 refine wR 1 [(1, pB d 0)] c (W_nil (N_then (G_seq ?_)))
 obtain ⟨h, l, k⟩ := gx_bind hm
 refine G_meet (fun a w' => Mem [] w w' [] ∧ Sat Tryz.f164.ntmps [(2, .bool h)] a) ?_ ?_
 ·have hm := l
  refine G_region (wR 1 [(1, pB d 0), (3, pB d 0)] c (wV (iv b.State) c (eL false 1 0 (f.blk 0 rfl)) (wR 2 [(1, pB d 0), (6, .bool (b.State == 2))] c ?_)))
  rcases gx_bif hm with ⟨g, hm⟩ | ⟨g, hm⟩
  ·refine wK 6 true g (wR 5 [(2, .bool true)] c (W_nil ?_))
   obtain rfl := Option.some.inj hm
   exact N_meet fun a ha => ⟨f.pk [], ha.s⟩
  refine wK 6 false g (wR 1 [(6, .bool false), (7, pB d 0)] c (wV (iv b.State) c (eL false 1 0 (f.blk 0 rfl)) (wR 3 [(2, .bool (b.State == 3))] c (W_nil ?_))))
  obtain rfl := Option.some.inj hm
  exact N_meet fun a ha => ⟨f.pk [], ha.s⟩
 intro m n ⟨i, j⟩
 refine N_use j ?_
 have hm := k
 refine N_then (G_ret ?_)
 obtain rfl := Option.some.inj hm
 exact N_ret [.bool h] (rC RVs_nil) (⟨rfl, i.pk []⟩)
theorem c_i_activeIrqs (w : World) (b : List Slot) (h : Option Addr) (i : Nat) (N : rdS encSlot w b h i) {r : (List Int)} (hm : M.i_activeIrqs b = some r) :
  Calls Tryz.prog 116 #[.slice h b.length i] w fun e w' => ∃ (P : Option Addr) (K : Nat) (R : Seg), e = .returned (.slice P r.length K) ∧ ownS Gx.encI r P K R ∧ Mem [] w w' [R] := by
 unfold M.i_activeIrqs at hm
 refine cE Tryz.func116 ?_
 have M0 := Mem.refl [] w
 refine G_seq (G_region (wR 1 [(0, .slice h b.length i)] w (W_nil (N_then (G_seq (G_region (wL (E := Gx.encI) ([] : List Int) 0 [] 3 M0 ?_)))))))
 intro G A ay S al Y
 refine wR 1 [(0, .slice h b.length i), (3, .slice G ([] : List Int).length A)] S (W_nil (N_then (G_seq (G_seq (G_region (wR 3 [(3, .slice G ([] : List Int).length A), (7, .slice h b.length i), (8, iv (b.length : Int)), (9, iv 0)] S (W_nil (N_then ?_))))))))
 obtain ⟨k, ax, ak⟩ := gx_bind hm
 refine G_meet (fun a w' => ∃ (g : Option Addr), ∃ (f : Nat), ∃ (v : Seg), ownS Gx.encI k g f v ∧ Mem [] w w' [v] ∧ Sat Tryz.f116.ntmps [(3, .slice g k.length f)] a) ?_ ?_
 ·refine G_block (G_while (σ := List Int × Int) (ρ := List Int) (fun d a w' => ∃ (l : Option Addr), ∃ (j : Nat), ∃ (o : Seg), ownS Gx.encI d.1 l j o ∧ Mem [] w w' [o] ∧ Sat Tryz.f116.ntmps [(3, .slice l d.1.length j), (7, .slice h b.length i), (8, iv (b.length : Int)), (9, iv d.2)] a) ax (fun a ha => ⟨G, A, ay, al, Y.pk [0], ha.s⟩) ?_)
  clear hm
  intro d bf hm au a6 H ⟨l, j, o, D, q, af⟩
  refine G_use af (G_seq (G_region (wR 1 [(3, .slice l d.1.length j), (7, .slice h b.length i), (8, iv (b.length : Int)), (9, iv d.2), (10, .bool (decide (d.2 < (b.length : Int))))] H (W_nil (N_then (G_seq ?_))))))
  rcases gx_bif hm with ⟨B, hm⟩ | ⟨B, hm⟩
  ·refine gT B (G_skip (N_then (G_seq (G_block (G_seq (G_region ?_))))))
   obtain ⟨c, O, hm⟩ := gx_bind hm
   refine wV (elemP h (d.2.toNat * 3)) H (eI (N.mem0 q) rfl O) (wV (.agg #[iv c.State, iv c.Irq, iv c.Priority]) H (eE true 3 0 (d.2.toNat * 3) (N.mem0 q) O) (wN (.cells ⟨[iv 0, iv 0, iv 0]⟩ 117 (0, 0)) q ?_))
   intro ae bd Z
   refine wS true 3 0 (.agg #[iv c.State, iv c.Irq, iv c.Priority]) 1 [iv c.State, iv c.Irq, iv c.Priority] Z rfl ?_
   intro T I
   refine W_nil (N_then (G_seq (G_region (wV (.agg #[iv c.State, iv c.Irq, iv c.Priority]) T (eL true 3 0 (I.blk 1 rfl)) ?_))))
   obtain ⟨bb, av, hm⟩ := gx_bind hm
   refine wC 164 #[.agg #[iv c.State, iv c.Irq, iv c.Priority]] ((c_i_isActive T c av).mono ?_)
   rintro e_ U ⟨rfl, W⟩
   have y := I.call0 W
   refine ⟨_, rfl, ?_⟩
   refine W_nil (N_then ?_)
   obtain ⟨F, an, aj⟩ := gx_bind hm
   refine G_meet (fun a w' => ∃ (n : Option Addr), ∃ (m : Nat), ∃ (x : Seg), ownS Gx.encI F n m x ∧ Mem [] w w' [x] ∧ Sat Tryz.f116.ntmps [(3, .slice n F.length m), (7, .slice h b.length i), (8, iv (b.length : Int)), (9, iv d.2)] a) ?_ ?_
   ·have hm := an
    rcases gx_bif hm with ⟨C, hm⟩ | ⟨C, hm⟩
    ·refine gT C (G_region (wR 2 [(3, .slice l d.1.length j), (7, .slice h b.length i), (8, iv (b.length : Int)), (9, iv d.2), (15, .slice l d.1.length j), (16, pB ae 1)] U (wV (iv c.Irq) U (eL false 1 1 (y.blk 1 rfl)) (wL (E := Gx.encI) [c.Irq] 1 [iv c.Irq] 3 y ?_))))
     intro ba a9 bc be ap J
     obtain ⟨ad, ai, hm⟩ := gx_bind hm
     refine wA 8 [iv 0] 0 J D (ap.rd J 2 (by kernel_rfl)) ai ?_
     intro Q L az a3 aq aa
     refine wR 1 [(3, .slice Q ad.length L), (7, .slice h b.length i), (8, iv (b.length : Int)), (9, iv d.2)] a3 (W_nil ?_)
     obtain rfl := Option.some.inj hm
     exact N_meet fun a ha => ⟨Q, L, az, aq, aa.pk [0], ha.s⟩
    refine gF C (G_skip ?_)
    obtain rfl := Option.some.inj hm
    exact N_meet fun a ha => ⟨l, j, o, D, y.pk [0], ha.s⟩
   intro a7 a4 ⟨n, m, x, ao, ab, ag⟩
   refine N_use ag ?_
   have hm := aj
   refine N_block (N_then (G_region (wR 2 [(3, .slice n F.length m), (7, .slice h b.length i), (8, iv (b.length : Int)), (9, iv (w64 (d.2 + 1)))] a4 (W_nil ?_))))
   obtain rfl := Option.some.inj hm
   exact N_loop fun a ha => ⟨_, rfl, n, m, x, ao, ab.pk [0], ha.s⟩
  refine gF B (G_exit (N_then_exit (N_then_exit (N_block_eq ?_))))
  obtain rfl := Option.some.inj hm
  obtain rfl := au _ rfl
  exact N_meet fun a ha => ⟨l, j, o, D, q.pk [0], ha.s⟩
 intro a8 V ⟨g, f, v, am, z, ah⟩
 refine N_use ah ?_
 have hm := ak
 refine N_then (G_seq (G_region (wR 1 [(3, .slice g k.length f), (21, .slice g k.length f)] V ?_)))
 obtain ⟨u, aw, hm⟩ := gx_bind hm
 refine wC 114 #[.slice g k.length f] ((c_slices_Sort_114 V k g f v am (z.hasPick [0]) (z.nodupPick [0] (by kernel_rfl)) aw).mono ?_)
 rintro e_ a5 ⟨a0, rfl, ar, t, X⟩
 have ac := z.callF' [0] [] (by kernel_rfl) X
 refine ⟨_, rfl, ?_⟩
 refine wX 3 (.slice g k.length f) (.slice g u.length f) (by first | rw [t] | rw [t]) (wX 21 (.slice g k.length f) (.slice g u.length f) (by first | rw [t] | rw [t]) (W_nil (N_then (G_seq (G_region (wR 2 [(2, .slice g u.length f)] a5 (W_nil (N_then (G_ret ?_)))))))))
 obtain rfl := Option.some.inj hm
 exact N_ret [.slice g u.length f] (rC RVs_nil) (⟨g, f, a0, rfl, ar, ac.pk [0]⟩)
theorem c_slices_Equal_115 (w : World) (b : List Int) (f : Option Addr) (h : Nat) (t : rdS Gx.encI w b f h) (d : List Int) (g : Option Addr) (i : Nat) (u : rdS Gx.encI w d g i) {r : Bool} (hm : M.slices_Equal_115 b d = some r) :
  Calls Tryz.prog 115 #[.slice f b.length h, .slice g d.length i] w fun e w' => e = .returned (.bool r) ∧ Mem [] w w' [] := by
 unfold M.slices_Equal_115 at hm
 refine cE Tryz.func115 ?_
 have M0 := Mem.refl [] w
 refine G_seq (G_region (wR 1 [(0, .slice f b.length h), (1, .slice g d.length i)] w (W_nil (N_then (G_seq (G_seq (G_region (wR 5 [(0, .slice f b.length h), (1, .slice g d.length i), (10, .bool ((b.length : Int) != (d.length : Int)))] w (W_nil (N_then ?_))))))))))
 rcases gx_bif hm with ⟨k, hm⟩ | ⟨k, hm⟩
 ·refine gT k (G_seq (G_region (wR 1 [(4, .bool false)] w (W_nil (N_then (G_ret (N_then_ret ?_)))))))
  obtain rfl := Option.some.inj hm
  exact N_ret [.bool false] (rC RVs_nil) (⟨rfl, M0.pk []⟩)
 refine gF k (G_skip (N_then (G_seq (G_seq (G_region (wR 3 [(0, .slice f b.length h), (1, .slice g d.length i), (12, iv (b.length : Int)), (13, iv 0)] w (W_nil (N_then ?_))))))))
 obtain ⟨H, G, v⟩ := gx_bind hm
 refine G_meet (fun a w' => ∃ (A : Unit), H = .inl A ∧ Mem [] w w' [] ∧ Sat Tryz.f115.ntmps [] a) ?_ ?_
 ·refine G_block (G_while (σ := Int) (ρ := (Unit) ⊕ (Bool)) (fun c a w' => Mem [] w w' [] ∧ Sat Tryz.f115.ntmps [(0, .slice f b.length h), (1, .slice g d.length i), (12, iv (b.length : Int)), (13, iv c)] a) G (fun a ha => ⟨M0.pk [], ha.s⟩) ?_)
  clear hm
  intro c L hm x J B ⟨o, E⟩
  refine G_use E (G_seq (G_region (wR 1 [(0, .slice f b.length h), (1, .slice g d.length i), (12, iv (b.length : Int)), (13, iv c), (14, .bool (decide (c < (b.length : Int))))] B (W_nil (N_then (G_seq ?_))))))
  rcases gx_bif hm with ⟨l, hm⟩ | ⟨l, hm⟩
  ·refine gT l (G_skip (N_then (G_seq (G_block (G_seq (G_region (wR 2 [(0, .slice f b.length h), (1, .slice g d.length i), (5, iv c), (12, iv (b.length : Int)), (13, iv c)] B (W_nil (N_then (G_seq (G_quiet (by kernel_rfl) (by kernel_rfl) o (zR [.slice f b.length h, iv c] [(0, .slice f b.length h), (1, .slice g d.length i), (5, iv c), (12, iv (b.length : Int)), (13, iv c), (16, .slice f b.length h), (17, iv c)] ?_))))))))))))
   obtain ⟨j, y, hm⟩ := gx_bind hm
   refine zV (elemP f (c.toNat * 1)) (fun w_ M_ => (eI (t.mem0 M_) rfl y)) (zV (iv j) (fun w_ M_ => (eE false 1 0 (c.toNat * 1) (t.mem0 M_) y)) (zR [.slice g d.length i, iv c] [(0, .slice f b.length h), (1, .slice g d.length i), (12, iv (b.length : Int)), (13, iv c), (19, iv j), (20, .slice g d.length i), (21, iv c)] ?_))
   obtain ⟨n, z, hm⟩ := gx_bind hm
   refine zV (elemP g (c.toNat * 1)) (fun w_ M_ => (eI (u.mem0 M_) rfl z)) (zV (iv n) (fun w_ M_ => (eE false 1 0 (c.toNat * 1) (u.mem0 M_) z)) (zR [.bool (j != n)] [(0, .slice f b.length h), (1, .slice g d.length i), (12, iv (b.length : Int)), (13, iv c), (24, .bool (j != n))] (Z_end fun C q => (N_then ?_))))
   rcases gx_bif hm with ⟨m, hm⟩ | ⟨m, hm⟩
   ·refine gT m (G_seq (G_region (wR 1 [(4, .bool false)] C (W_nil (N_then (G_ret (N_block_ret (N_then_ret (N_then_ret ?_)))))))))
    obtain rfl := Option.some.inj hm
    obtain rfl := x _ rfl
    have hm := v; simp only [Sum.elim_inr] at hm
    refine N_block_ret (N_meet_ret (N_then_ret ?_))
    obtain rfl := Option.some.inj hm
    exact N_ret [.bool false] (rC RVs_nil) (⟨rfl, q.pk []⟩)
   refine gF m (G_skip (N_block (N_then (G_region (wR 2 [(0, .slice f b.length h), (1, .slice g d.length i), (12, iv (b.length : Int)), (13, iv (w64 (c + 1)))] C (W_nil ?_))))))
   obtain rfl := Option.some.inj hm
   exact N_loop fun a ha => ⟨_, rfl, q.pk [], ha.s⟩
  refine gF l (G_exit (N_then_exit (N_then_exit (N_block_eq ?_))))
  obtain rfl := Option.some.inj hm
  obtain rfl := x _ rfl
  exact N_meet fun a ha => ⟨_, rfl, o.pk [], ha.s⟩
 intro K I ⟨A, hout_, D, F⟩
 refine N_use F ?_
 subst hout_
 have hm := v; simp only [Sum.elim_inl] at hm
 refine N_then (G_seq (G_region (wR 1 [(4, .bool true)] I (W_nil (N_then (G_ret ?_))))))
 obtain rfl := Option.some.inj hm
 exact N_ret [.bool true] (rC RVs_nil) (⟨rfl, D.pk []⟩)
theorem c_i_priorityIn (w : World) (b : List Slot) (a : Option Addr) (c : Nat) (g : rdS encSlot w b a c) (d : Int) {r : Int} (hm : M.i_priorityIn b d = some r) :
  Calls Tryz.prog 117 #[.slice a b.length c, iv d] w fun e w' => e = .returned (iv r) ∧ Mem [] w w' [] := by
 unfold M.i_priorityIn at hm
 refine cE Tryz.func117 ?_
 have M0 := Mem.refl [] w
 refine G_seq (G_region (wR 1 [(0, .slice a b.length c), (1, iv d)] w (W_nil (N_then (G_seq (G_region (wR 3 [(5, .slice a b.length c), (6, .slice a b.length c), (7, iv d)] w ?_)))))))
 obtain ⟨h, m, hm⟩ := gx_bind hm
 refine wC 165 #[.slice a b.length c, iv d] ((c_i_findSlot w b a c (g.mem0 M0) d m).mono ?_)
 rintro e_ i ⟨rfl, l⟩
 have f := M0.call0 l
 refine ⟨_, rfl, ?_⟩
 obtain ⟨k, j, hm⟩ := gx_bind hm
 refine wV (elemP a (h.toNat * 3)) i (eI (g.mem0 f) rfl j) (wV (elemP a (h.toNat * 3 + 2)) i (eF 2 (h.toNat * 3) 2 (g.mem0 f) j) (wV (iv k.Priority) i (eE false 1 2 (h.toNat * 3 + 2) (g.mem0 f) j) (wR 1 [(4, iv k.Priority)] i (W_nil (N_then (G_ret ?_))))))
 obtain rfl := Option.some.inj hm
 exact N_ret [iv k.Priority] (rC RVs_nil) (⟨rfl, f.pk []⟩)
theorem c_i_IsInterface (w : World) (b : Interface) (h : Option Addr) (i : Nat) (t : rdS Gx.encI w b.Stack h i) (g : Option Addr) (f : Nat) (y : rdS encSlot w b.Queue.Slots g f) (m : Option Addr) (l : Nat) (an : rdS encWaiter w b.Queue.Waiting m l) {r : Bool} (hm : M.i_IsInterface b = some r) :
  Calls Tryz.prog 59 #[.agg #[iv b.Mask, .slice h b.Stack.length i, .slice g b.Queue.Slots.length f, .slice m b.Queue.Waiting.length l]] w fun e w' => e = .returned (.bool r) ∧ Mem [] w w' [] := by
 unfold M.i_IsInterface at hm
 refine cE Tryz.func59 ?_
 have M0 := Mem.refl [] w
 refine G_seq (G_region (wN (.cells ⟨[iv b.Mask, .slice h b.Stack.length i, .slice g b.Queue.Slots.length f, .slice m b.Queue.Waiting.length l]⟩ 87 (0, 0)) M0 ?_))
 intro c A T
 refine wR 1 [(1, pB c 0)] A (W_nil (N_then (G_seq (G_seq ?_))))
 obtain ⟨a9, au, ar⟩ := gx_bind hm
 refine G_meet (fun a w' => Mem [] w w' [[(c, .cells ⟨[iv b.Mask, .slice h b.Stack.length i, .slice g b.Queue.Slots.length f, .slice m b.Queue.Waiting.length l]⟩ 87 (0, 0))]] ∧ Sat Tryz.f59.ntmps [(1, pB c 0), (14, .bool a9)] a) ?_ ?_
 ·have hm := au
  refine G_region (wR 1 [(1, pB c 0), (5, pB c 0)] A (wV (iv b.Mask) A (eL false 1 0 (T.blk 0 rfl)) ?_))
  obtain ⟨bb, ay, hm⟩ := gx_bind hm
  refine wC 112 #[iv b.Mask] ((c_i_isMask A b.Mask ay).mono ?_)
  rintro e_ v ⟨rfl, af⟩
  have q := T.call0 af
  refine ⟨_, rfl, ?_⟩
  refine wR 2 [(1, pB c 0), (9, .bool (!bb))] v ?_
  rcases gx_bif hm with ⟨G, hm⟩ | ⟨G, hm⟩
  ·refine wK 9 true G (wR 5 [(1, pB c 0), (14, .bool true)] v (W_nil ?_))
   obtain rfl := Option.some.inj hm
   exact N_meet fun a ha => ⟨q.pk [0], ha.s⟩
  refine wK 9 false G (wR 1 [(1, pB c 0), (9, .bool false), (10, pB c 2)] v (wV (.agg #[.slice g b.Queue.Slots.length f, .slice m b.Queue.Waiting.length l]) v (eL true 2 2 (q.blk 0 rfl)) ?_))
  obtain ⟨bc, az, hm⟩ := gx_bind hm
  refine wC 113 #[.agg #[.slice g b.Queue.Slots.length f, .slice m b.Queue.Waiting.length l]] ((c_i_IsQueue v (⟨b.Queue.Slots, b.Queue.Waiting⟩ : Queue) g f (y.mem0 q) m l (an.mem0 q) az).mono ?_)
  rintro e_ bf ⟨rfl, ag⟩
  have al := q.call0 ag
  refine ⟨_, rfl, ?_⟩
  refine wR 2 [(1, pB c 0), (14, .bool (!bc))] bf (W_nil ?_)
  obtain rfl := Option.some.inj hm
  exact N_meet fun a ha => ⟨al.pk [0], ha.s⟩
 intro bi B ⟨x, ao⟩
 refine N_use ao ?_
 have hm := ar
 refine N_then ?_
 rcases gx_bif hm with ⟨H, hm⟩ | ⟨H, hm⟩
 ·refine gT H (G_seq (G_region (wR 1 [(2, .bool false)] B (W_nil (N_then (G_ret (N_then_ret ?_)))))))
  obtain rfl := Option.some.inj hm
  exact N_ret [.bool false] (rC RVs_nil) (⟨rfl, x.pk []⟩)
 refine gF H (G_skip (N_then (G_seq (G_region (wR 1 [(1, pB c 0), (15, pB c 1)] B (wV (.slice h b.Stack.length i) B (eL false 1 1 (x.blk 0 rfl)) ?_))))))
 obtain ⟨n, a0, hm⟩ := gx_bind hm
 refine wC 67 #[.slice h b.Stack.length i] ((c_i_copyInts B b.Stack h i (t.mem0 x) a0).mono ?_)
 rintro e_ N ⟨k, j, be, rfl, av, ah⟩
 have C := x.call ah
 refine ⟨_, rfl, ?_⟩
 refine wR 1 [(1, pB c 0), (3, .slice k n.length j)] N (W_nil (N_then (G_seq (G_region (wR 1 [(1, pB c 0), (3, .slice k n.length j), (18, .slice k n.length j)] N ?_)))))
 obtain ⟨u, a3, hm⟩ := gx_bind hm
 refine wC 114 #[.slice k n.length j] ((c_slices_Sort_114 N n k j be av (C.hasPick [1]) (C.nodupPick [1] (by kernel_rfl)) a3).mono ?_)
 rintro e_ O ⟨bl, rfl, aw, z, ai⟩
 have D := C.callF' [1] [0] (by kernel_rfl) ai
 refine ⟨_, rfl, ?_⟩
 refine wX 3 (.slice k n.length j) (.slice k u.length j) (by first | rw [z] | rw [z]) (wX 18 (.slice k n.length j) (.slice k u.length j) (by first | rw [z] | rw [z]) (W_nil (N_then (G_seq (G_seq (G_region (wR 3 [(1, pB c 0), (20, .slice k u.length j), (22, pB c 2)] O (wV (.slice g b.Queue.Slots.length f) O (eL false 1 2 (D.blk 0 rfl)) ?_))))))))
 obtain ⟨ad, a4, hm⟩ := gx_bind hm
 refine wC 116 #[.slice g b.Queue.Slots.length f] ((c_i_activeIrqs O b.Queue.Slots g f (y.mem0 D) a4).mono ?_)
 rintro e_ bg ⟨ac, W, bm, rfl, ax, aj⟩
 have E := D.call aj
 refine ⟨_, rfl, ?_⟩
 obtain ⟨bd, a5, hm⟩ := gx_bind hm
 refine wC 115 #[.slice k u.length j, .slice ac ad.length W] ((c_slices_Equal_115 bg u k j (aw.rd E 1 (by kernel_rfl)) ad ac W (ax.rd E 2 (by kernel_rfl)) a5).mono ?_)
 rintro e_ P ⟨rfl, ak⟩
 have U := E.call0 ak
 refine ⟨_, rfl, ?_⟩
 refine wR 1 [(1, pB c 0), (26, .bool (!bd))] P (W_nil (N_then ?_))
 rcases gx_bif hm with ⟨I, hm⟩ | ⟨I, hm⟩
 ·refine gT I (G_seq (G_region (wR 1 [(2, .bool false)] P (W_nil (N_then (G_ret (N_then_ret ?_)))))))
  obtain rfl := Option.some.inj hm
  exact N_ret [.bool false] (rC RVs_nil) (⟨rfl, U.pk []⟩)
 refine gF I (G_skip (N_then (G_seq (G_seq (G_region (wR 1 [(1, pB c 0), (4, iv 1)] P (W_nil (N_then ?_))))))))
 obtain ⟨ba, a8, X⟩ := gx_bind hm
 refine G_meet (fun a w' => ∃ (ab : Unit), ba = .inl ab ∧ Mem [] w w' [] ∧ Sat Tryz.f59.ntmps [] a) ?_ ?_
 ·refine G_block (G_while (σ := Int) (ρ := (Unit) ⊕ (Bool)) (fun d a w' => Mem [] w w' [[(c, .cells ⟨[iv b.Mask, .slice h b.Stack.length i, .slice g b.Queue.Slots.length f, .slice m b.Queue.Waiting.length l]⟩ 87 (0, 0))]] ∧ Sat Tryz.f59.ntmps [(1, pB c 0), (4, iv d)] a) a8 (fun a ha => ⟨U.pk [0], ha.s⟩) ?_)
  clear hm
  intro d bn hm Y bj Q ⟨F, ap⟩
  refine G_use ap (G_seq (G_seq (G_region (wR 2 [(1, pB c 0), (4, iv d), (27, iv d), (28, pB c 1)] Q (wV (.slice h b.Stack.length i) Q (eL false 1 1 (F.blk 0 rfl)) (wR 2 [(1, pB c 0), (4, iv d), (31, .bool (decide (d < (b.Stack.length : Int))))] Q (W_nil (N_then ?_))))))))
  rcases gx_bif hm with ⟨J, hm⟩ | ⟨J, hm⟩
  ·refine gT J (G_skip (N_then (G_seq (G_block (G_seq (G_quiet (by kernel_rfl) (by kernel_rfl) F (zR [pB c 2, pB c 2] [(1, pB c 0), (4, iv d), (35, pB c 2)] (zV (.slice g b.Queue.Slots.length f) (fun w_ M_ => (eL false 1 2 (M_.blk 0 rfl))) (zR [pB c 1] [(1, pB c 0), (4, iv d), (36, .slice g b.Queue.Slots.length f), (37, pB c 1)] (zV (.slice h b.Stack.length i) (fun w_ M_ => (eL false 1 1 (M_.blk 0 rfl))) (zR [iv d] [(1, pB c 0), (4, iv d), (36, .slice g b.Queue.Slots.length f), (38, .slice h b.Stack.length i), (39, iv d)] ?_)))))))))))
   obtain ⟨R, Z, hm⟩ := gx_bind hm
   refine zV (elemP h (d.toNat * 1)) (fun w_ M_ => (eI (t.mem0 M_) rfl Z)) (zV (iv R) (fun w_ M_ => (eE false 1 0 (d.toNat * 1) (t.mem0 M_) Z)) ?_)
   obtain ⟨o, a6, hm⟩ := gx_bind hm
   refine Z_call 117 #[.slice g b.Queue.Slots.length f, iv R] (iv o) (by kernel_rfl) (fun w_ => by kernel_rfl) (fun w_ M_ => (c_i_priorityIn w_ b.Queue.Slots g f (y.mem0 M_) R a6).mono fun e w2_ h_ => ⟨h_.1, M_.call0 h_.2⟩) (zR [pB c 2, pB c 2] [(1, pB c 0), (4, iv d), (42, iv o), (44, pB c 2)] (zV (.slice g b.Queue.Slots.length f) (fun w_ M_ => (eL false 1 2 (M_.blk 0 rfl))) (zR [pB c 1] [(1, pB c 0), (4, iv d), (42, iv o), (45, .slice g b.Queue.Slots.length f), (46, pB c 1)] (zV (.slice h b.Stack.length i) (fun w_ M_ => (eL false 1 1 (M_.blk 0 rfl))) (zR [iv d, iv (w64 (d - 1))] [(1, pB c 0), (4, iv d), (42, iv o), (45, .slice g b.Queue.Slots.length f), (47, .slice h b.Stack.length i), (49, iv (w64 (d - 1)))] ?_)))))
   obtain ⟨S, aa, hm⟩ := gx_bind hm
   refine zV (elemP h ((w64 (d - 1)).toNat * 1)) (fun w_ M_ => (eI (t.mem0 M_) rfl aa)) (zV (iv S) (fun w_ M_ => (eE false 1 0 ((w64 (d - 1)).toNat * 1) (t.mem0 M_) aa)) ?_)
   obtain ⟨L, a7, hm⟩ := gx_bind hm
   refine Z_call 117 #[.slice g b.Queue.Slots.length f, iv S] (iv L) (by kernel_rfl) (fun w_ => by kernel_rfl) (fun w_ M_ => (c_i_priorityIn w_ b.Queue.Slots g f (y.mem0 M_) S a7).mono fun e w2_ h_ => ⟨h_.1, M_.call0 h_.2⟩) (zR [.bool (decide (o ≥ L))] [(1, pB c 0), (4, iv d), (53, .bool (decide (o ≥ L)))] (Z_end fun ae V => (N_then ?_)))
   rcases gx_bif hm with ⟨K, hm⟩ | ⟨K, hm⟩
   ·refine gT K (G_seq (G_region (wR 1 [(2, .bool false)] ae (W_nil (N_then (G_ret (N_block_ret (N_then_ret (N_then_ret ?_)))))))))
    obtain rfl := Option.some.inj hm
    obtain rfl := Y _ rfl
    have hm := X; simp only [Sum.elim_inr] at hm
    refine N_block_ret (N_meet_ret (N_then_ret ?_))
    obtain rfl := Option.some.inj hm
    exact N_ret [.bool false] (rC RVs_nil) (⟨rfl, V.pk []⟩)
   refine gF K (G_skip (N_block (N_then (G_region (wR 3 [(1, pB c 0), (4, iv (w64 (d + 1)))] ae (W_nil ?_))))))
   obtain rfl := Option.some.inj hm
   exact N_loop fun a ha => ⟨_, rfl, V.pk [0], ha.s⟩
  refine gF J (G_exit (N_then_exit (N_then_exit (N_block_eq ?_))))
  obtain rfl := Option.some.inj hm
  obtain rfl := Y _ rfl
  exact N_meet fun a ha => ⟨_, rfl, F.pk [], ha.s⟩
 intro bk bh ⟨ab, hout_, am, aq⟩
 refine N_use aq ?_
 subst hout_
 have hm := X; simp only [Sum.elim_inl] at hm
 refine N_then (G_seq (G_region (wR 1 [(2, .bool true)] bh (W_nil (N_then (G_ret ?_))))))
 obtain rfl := Option.some.inj hm
 exact N_ret [.bool true] (rC RVs_nil) (⟨rfl, am.pk []⟩)
theorem c_slices_Clone_118 (w : World) (b : List Waiter) (d : Option Addr) (a : Nat) (j : rdS encWaiter w b d a) {r : (List Waiter)} (hm : M.slices_Clone_118 b = some r) :
  Calls Tryz.prog 118 #[.slice d b.length a] w fun e w' => ∃ (k : Option Addr) (i : Nat) (l : Seg), e = .returned (.slice k r.length i) ∧ ownS encWaiter r k i l ∧ Mem [] w w' [l] := by
 unfold M.slices_Clone_118 at hm
 cases d with
 | none =>
  have hx : b = [] := by rcases j.2 with hh | ⟨_, _, _, _, _, hp, _⟩; exact hh; cases hp
  subst hx
  have hm : some ([] : List Waiter) = some r := by simpa [gxApp] using hm
  refine cE Tryz.func118 ?_
  have M0 := Mem.refl [] w
  refine G_seq (G_region (wR 1 [(0, .slice none ([] : List Waiter).length a)] w (W_nil (N_then (G_seq (G_seq (G_region (wR 2 [(0, .slice none ([] : List Waiter).length a), (4, .bool true)] w (W_nil (N_then (gT rfl (G_seq (G_region (wR 1 [(2, .slice none 0 0)] w (W_nil ?_)))))))))))))))
  refine N_then (G_ret (N_then_ret ?_))
  obtain rfl := Option.some.inj hm
  exact N_ret [.slice none 0 0] (rC RVs_nil) (⟨none, 0, [], rfl, ownS_nil, M0.pk [100000]⟩)
 | some a_ =>
  refine cE Tryz.func118 ?_
  have M0 := Mem.refl [] w
  refine G_seq (G_region (wR 1 [(0, .slice (some a_) b.length a)] w (W_nil (N_then (G_seq (G_seq (G_region (wR 2 [(0, .slice (some a_) b.length a), (4, .bool false)] w (W_nil (N_then (gF rfl (G_skip (N_then (G_seq (G_region ?_)))))))))))))))
  refine wL (E := encWaiter) ([] : List Waiter) 0 [] 142 M0 ?_
  intro u n z x q g
  refine wR 1 [(5, .slice u ([] : List Waiter).length n), (6, .slice (some a_) b.length a)] x ?_
  obtain ⟨h, o, hm⟩ := gx_bind hm
  refine wA 16 [iv 0, iv 0] 0 g q (j.mem0 g) o ?_
  intro f c v y t m
  refine wR 1 [(2, .slice f h.length c)] y (W_nil (N_then (G_ret ?_)))
  obtain rfl := Option.some.inj hm
  exact N_ret [.slice f h.length c] (rC RVs_nil) (⟨f, c, v, rfl, t, m.pk [0]⟩)
theorem c_i_fitsRoutes_1 (w : World) (b : Waiter) (h : List Route) (g : Option Addr) (i : Nat) (k : rdS encRoute w h g i) (j : Nat) (o : w.heap[j]? = some (.cells ⟨[.slice g h.length i]⟩ 29 (0, 0))) (c : Int) (f : Nat) (q : w.heap[f]? = some (.cells ⟨[iv c]⟩ 3 (0, 0))) {r : Bool} (hm : M.i_fitsRoutes_1 b h c = some r) :
  Calls Tryz.prog 121 #[.agg #[iv b.Irq, iv b.Priority], pB j 0, pB f 0] w fun e w' => e = .returned (.bool r) ∧ Mem [] w w' [] := by
 unfold M.i_fitsRoutes_1 at hm
 refine cE Tryz.func121 ?_
 have M0 := Mem.refl [] w
 refine G_seq (G_region (wN (.cells ⟨[iv b.Irq, iv b.Priority]⟩ 142 (0, 0)) M0 ?_))
 intro d t m
 refine wR 1 [(1, pB j 0), (2, pB f 0), (3, pB d 0)] t (W_nil (N_then (G_seq (G_quiet (by kernel_rfl) (by kernel_rfl) m (zV (.slice g h.length i) (fun w_ M_ => (eL false 1 0 (M_.ro o))) (zR [pB d 0] [(2, pB f 0), (3, pB d 0), (5, .slice g h.length i), (6, pB d 0)] (zV (iv b.Irq) (fun w_ M_ => (eL false 1 0 (M_.blk 0 rfl))) ?_)))))))
 obtain ⟨a, l, hm⟩ := gx_bind hm
 refine zV (elemP g (b.Irq.toNat * 2)) (fun w_ M_ => (eI (k.mem0 M_) rfl l)) (zV (.agg #[iv a.Priority, iv a.Target]) (fun w_ M_ => (eE true 2 0 (b.Irq.toNat * 2) (k.mem0 M_) l)) (zR [pB d 1] [(2, pB f 0), (9, .agg #[iv a.Priority, iv a.Target]), (10, pB d 1)] (zV (iv b.Priority) (fun w_ M_ => (eL false 1 1 (M_.blk 0 rfl))) (zV (iv c) (fun w_ M_ => (eL false 1 0 (M_.ro q))) (zR [.agg #[iv b.Priority, iv c]] [(9, .agg #[iv a.Priority, iv a.Target]), (13, .agg #[iv b.Priority, iv c])] (zV (.bool (!((a.Priority == b.Priority) && ((a.Target == c) && true)))) (fun w_ M_ => (E_neqAgg _ _ _ _ [iv a.Priority, iv a.Target] [iv b.Priority, iv c] ((a.Priority == b.Priority) && ((a.Target == c) && true)) rfl (by kernel_rfl) (by kernel_rfl) (by kernel_rfl) (by kernel_rfl) (by kernel_rfl) (by kernel_rfl))) (zR [.bool (!((a.Priority == b.Priority) && ((a.Target == c) && true)))] [(4, .bool (!((a.Priority == b.Priority) && ((a.Target == c) && true))))] (Z_end fun u n => (N_then (G_ret ?_))))))))))
 obtain rfl := Option.some.inj hm
 exact N_ret [.bool (!((a.Priority == b.Priority) && ((a.Target == c) && true)))] (rC RVs_nil) (⟨rfl, n.pk []⟩)
theorem c_slices_IndexFunc_166__i_fitsRoutes_1 (w : World) (b : List Waiter) (g : Option Addr) (h : Nat) (v : rdS encWaiter w b g h) (l : List Route) (q : Option Addr) (m : Nat) (E : rdS encRoute w l q m) (d : Nat) (H : w.heap[d]? = some (.cells ⟨[.slice q l.length m]⟩ 29 (0, 0))) (t : Int) (f : Nat) (I : w.heap[f]? = some (.cells ⟨[iv t]⟩ 3 (0, 0))) {r : Int} (hm : M.slices_IndexFunc_166__i_fitsRoutes_1 b l t = some r) :
  Calls Tryz.prog 166 #[.slice g b.length h, .func (.func 121) #[] #[pB d 0, pB f 0]] w fun e w' => e = .returned (iv r) ∧ Mem [] w w' [] := by
 unfold M.slices_IndexFunc_166__i_fitsRoutes_1 at hm
 refine cE Tryz.func166 ?_
 have M0 := Mem.refl [] w
 refine G_seq (G_region (wR 1 [(0, .slice g b.length h), (1, .func (.func 121) #[] #[pB d 0, pB f 0])] w (W_nil (N_then (G_seq (G_seq (G_region (wR 3 [(0, .slice g b.length h), (1, .func (.func 121) #[] #[pB d 0, pB f 0]), (7, iv (b.length : Int)), (8, iv 0)] w (W_nil (N_then ?_))))))))))
 obtain ⟨L, K, x⟩ := gx_bind hm
 refine G_meet (fun a w' => ∃ (A : Unit), L = .inl A ∧ Mem [] w w' [] ∧ Sat Tryz.f166.ntmps [] a) ?_ ?_
 ·refine G_block (G_while (σ := Int) (ρ := (Unit) ⊕ (Int)) (fun c a w' => Mem [] w w' [] ∧ Sat Tryz.f166.ntmps [(0, .slice g b.length h), (1, .func (.func 121) #[] #[pB d 0, pB f 0]), (7, iv (b.length : Int)), (8, iv c)] a) K (fun a ha => ⟨M0.pk [], ha.s⟩) ?_)
  clear hm
  intro c R hm y O j ⟨i, F⟩
  refine G_use F (G_seq (G_region (wR 1 [(0, .slice g b.length h), (1, .func (.func 121) #[] #[pB d 0, pB f 0]), (7, iv (b.length : Int)), (8, iv c), (9, .bool (decide (c < (b.length : Int))))] j (W_nil (N_then (G_seq ?_))))))
  rcases gx_bif hm with ⟨n, hm⟩ | ⟨n, hm⟩
  ·refine gT n (G_skip (N_then (G_seq (G_block (G_seq (G_region (wR 2 [(0, .slice g b.length h), (1, .func (.func 121) #[] #[pB d 0, pB f 0]), (5, iv c), (7, iv (b.length : Int)), (8, iv c)] j (W_nil (N_then (G_seq (G_region (wR 3 [(0, .slice g b.length h), (1, .func (.func 121) #[] #[pB d 0, pB f 0]), (5, iv c), (7, iv (b.length : Int)), (8, iv c), (11, .func (.func 121) #[] #[pB d 0, pB f 0]), (12, .slice g b.length h), (13, iv c)] j ?_))))))))))))
   obtain ⟨k, z, hm⟩ := gx_bind hm
   refine wV (elemP g (c.toNat * 2)) j (eI (v.mem0 i) rfl z) (wV (.agg #[iv k.Irq, iv k.Priority]) j (eE true 2 0 (c.toNat * 2) (v.mem0 i) z) ?_)
   obtain ⟨Q, J, hm⟩ := gx_bind hm
   refine wC 121 #[.agg #[iv k.Irq, iv k.Priority], pB d 0, pB f 0] ((c_i_fitsRoutes_1 j k l q m (E.mem0 i) d (i.ro H) t f (i.ro I) J).mono ?_)
   rintro e_ B ⟨rfl, C⟩
   have u := i.call0 C
   refine ⟨_, rfl, ?_⟩
   refine W_nil (N_then ?_)
   rcases gx_bif hm with ⟨o, hm⟩ | ⟨o, hm⟩
   ·refine gT o (G_seq (G_region (wR 2 [(4, iv c)] B (W_nil (N_then (G_ret (N_block_ret (N_then_ret (N_then_ret ?_)))))))))
    obtain rfl := Option.some.inj hm
    obtain rfl := y _ rfl
    have hm := x; simp only [Sum.elim_inr] at hm
    refine N_block_ret (N_meet_ret (N_then_ret ?_))
    obtain rfl := Option.some.inj hm
    exact N_ret [iv c] (rC RVs_nil) (⟨rfl, u.pk []⟩)
   refine gF o (G_skip (N_block (N_then (G_region (wR 2 [(0, .slice g b.length h), (1, .func (.func 121) #[] #[pB d 0, pB f 0]), (7, iv (b.length : Int)), (8, iv (w64 (c + 1)))] B (W_nil ?_))))))
   obtain rfl := Option.some.inj hm
   exact N_loop fun a ha => ⟨_, rfl, u.pk [], ha.s⟩
  refine gF n (G_exit (N_then_exit (N_then_exit (N_block_eq ?_))))
  obtain rfl := Option.some.inj hm
  obtain rfl := y _ rfl
  exact N_meet fun a ha => ⟨_, rfl, i.pk [], ha.s⟩
 intro P N ⟨A, hout_, D, G⟩
 refine N_use G ?_
 subst hout_
 have hm := x; simp only [Sum.elim_inl] at hm
 refine N_then (G_seq (G_region (wR 1 [(4, iv (-1))] N (W_nil (N_then (G_ret ?_))))))
 obtain rfl := Option.some.inj hm
 exact N_ret [iv (-1)] (rC RVs_nil) (⟨rfl, D.pk []⟩)
theorem c_slices_ContainsFunc_120__i_fitsRoutes_1 (w : World) (a : List Waiter) (f : Option Addr) (d : Nat) (n : rdS encWaiter w a f d) (g : List Route) (i : Option Addr) (h : Nat) (o : rdS encRoute w g i h) (b : Nat) (q : w.heap[b]? = some (.cells ⟨[.slice i g.length h]⟩ 29 (0, 0))) (j : Int) (c : Nat) (t : w.heap[c]? = some (.cells ⟨[iv j]⟩ 3 (0, 0))) {r : Bool} (hm : M.slices_ContainsFunc_120__i_fitsRoutes_1 a g j = some r) :
  Calls Tryz.prog 120 #[.slice f a.length d, .func (.func 121) #[] #[pB b 0, pB c 0]] w fun e w' => e = .returned (.bool r) ∧ Mem [] w w' [] := by
 unfold M.slices_ContainsFunc_120__i_fitsRoutes_1 at hm
 refine cE Tryz.func120 ?_
 have M0 := Mem.refl [] w
 refine G_seq (G_region (wR 1 [(0, .slice f a.length d), (1, .func (.func 121) #[] #[pB b 0, pB c 0])] w (W_nil (N_then (G_seq (G_region (wR 2 [(5, .slice f a.length d), (6, .func (.func 121) #[] #[pB b 0, pB c 0])] w ?_)))))))
 obtain ⟨k, u, hm⟩ := gx_bind hm
 refine wC 166 #[.slice f a.length d, .func (.func 121) #[] #[pB b 0, pB c 0]] ((c_slices_IndexFunc_166__i_fitsRoutes_1 w a f d (n.mem0 M0) g i h (o.mem0 M0) b (M0.ro q) j c (M0.ro t) u).mono ?_)
 rintro e_ v ⟨rfl, l⟩
 have m := M0.call0 l
 refine ⟨_, rfl, ?_⟩
 refine wR 2 [(4, .bool (decide (k ≥ 0)))] v (W_nil (N_then (G_ret ?_)))
 obtain rfl := Option.some.inj hm
 exact N_ret [.bool (decide (k ≥ 0))] (rC RVs_nil) (⟨rfl, m.pk []⟩)
theorem c_i_fitsRoutes (w : World) (n : List Route) (t : Option Addr) (q : Nat) (az : rdS encRoute w n t q) (u : Int) (c : Interface) (X : Option Addr) (R : Nat) (bs : rdS Gx.encI w c.Stack X R) (i : Option Addr) (j : Nat) (af : rdS encSlot w c.Queue.Slots i j) (B : Option Addr) (z : Nat) (a0 : rdS encWaiter w c.Queue.Waiting B z) {r : Bool} (hm : M.i_fitsRoutes n u c = some r) :
  Calls Tryz.prog 60 #[.slice t n.length q, iv u, .agg #[iv c.Mask, .slice X c.Stack.length R, .slice i c.Queue.Slots.length j, .slice B c.Queue.Waiting.length z]] w fun e w' => e = .returned (.bool r) ∧ Mem [] w w' [] := by
 unfold M.i_fitsRoutes at hm
 refine cE Tryz.func60 ?_
 have M0 := Mem.refl [] w
 refine G_seq (G_region (wN (.cells ⟨[.slice t n.length q]⟩ 29 (0, 0)) M0 ?_))
 intro d bv ap
 refine wN (.cells ⟨[iv u]⟩ 3 (0, 0)) ap ?_
 intro f bw aq
 refine wN (.cells ⟨[iv c.Mask, .slice X c.Stack.length R, .slice i c.Queue.Slots.length j, .slice B c.Queue.Waiting.length z]⟩ 87 (0, 0)) aq ?_
 intro F O Q
 refine wR 1 [(3, pB d 0), (4, pB f 0), (5, pB F 0)] O (W_nil (N_then (G_seq (G_region (wR 2 [(3, pB d 0), (4, pB f 0), (5, pB F 0), (11, pB F 3)] O (wV (.slice B c.Queue.Waiting.length z) O (eL false 1 3 (Q.blk 2 rfl)) ?_))))))
 obtain ⟨Y, be, hm⟩ := gx_bind hm
 refine wC 118 #[.slice B c.Queue.Waiting.length z] ((c_slices_Clone_118 O c.Queue.Waiting B z (a0.mem0 Q) be).mono ?_)
 rintro e_ P ⟨L, K, bj, rfl, a8, am⟩
 have ac := Q.call am
 refine ⟨_, rfl, ?_⟩
 refine wR 1 [(3, pB d 0), (4, pB f 0), (5, pB F 0), (7, .slice L Y.length K)] P (W_nil (N_then (G_seq (G_seq (G_region (wR 2 [(3, pB d 0), (4, pB f 0), (7, .slice L Y.length K), (15, pB F 2)] P (wV (.slice i c.Queue.Slots.length j) P (eL false 1 2 (ac.blk 2 rfl)) (wR 2 [(3, pB d 0), (4, pB f 0), (7, .slice L Y.length K), (16, .slice i c.Queue.Slots.length j), (17, iv (c.Queue.Slots.length : Int)), (18, iv 0)] P (W_nil (N_then ?_))))))))))
 obtain ⟨bi, bh, ag⟩ := gx_bind hm
 refine G_meet (fun a w' => ∃ (x : List Waiter), ∃ (C : Option Addr), ∃ (A : Nat), ∃ (aa : Seg), ownS encWaiter x C A aa ∧ bi = .inl x ∧ Mem [] w w' [[(d, .cells ⟨[.slice t n.length q]⟩ 29 (0, 0))], [(f, .cells ⟨[iv u]⟩ 3 (0, 0))], aa] ∧ Sat Tryz.f60.ntmps [(3, pB d 0), (4, pB f 0), (7, .slice C x.length A)] a) ?_ ?_
 ·refine G_block (G_while (σ := List Waiter × Int) (ρ := (List Waiter) ⊕ (Bool)) (fun g a w' => ∃ (l : Option Addr), ∃ (k : Nat), ∃ (I : Seg), ownS encWaiter g.1 l k I ∧ Mem [] w w' [[(d, .cells ⟨[.slice t n.length q]⟩ 29 (0, 0))], [(f, .cells ⟨[iv u]⟩ 3 (0, 0))], I] ∧ Sat Tryz.f60.ntmps [(3, pB d 0), (4, pB f 0), (7, .slice l g.1.length k), (16, .slice i c.Queue.Slots.length j), (17, iv (c.Queue.Slots.length : Int)), (18, iv g.2)] a) bh (fun a ha => ⟨L, K, bj, a8, ac.pk [0, 1, 3], ha.s⟩) ?_)
  clear hm
  intro g b1 hm ah bo ab ⟨l, k, I, V, J, a3⟩
  refine G_use a3 (G_seq (G_region (wR 1 [(3, pB d 0), (4, pB f 0), (7, .slice l g.1.length k), (16, .slice i c.Queue.Slots.length j), (17, iv (c.Queue.Slots.length : Int)), (18, iv g.2), (19, .bool (decide (g.2 < (c.Queue.Slots.length : Int))))] ab (W_nil (N_then (G_seq ?_))))))
  rcases gx_bif hm with ⟨S, hm⟩ | ⟨S, hm⟩
  ·refine gT S (G_skip (N_then (G_seq (G_block (G_seq (G_region ?_))))))
   obtain ⟨h, ai, hm⟩ := gx_bind hm
   refine wV (elemP i (g.2.toNat * 3)) ab (eI (af.mem0 J) rfl ai) (wV (.agg #[iv h.State, iv h.Irq, iv h.Priority]) ab (eE true 3 0 (g.2.toNat * 3) (af.mem0 J) ai) (wN (.cells ⟨[iv 0, iv 0, iv 0]⟩ 117 (0, 0)) J ?_))
   intro v bx ar
   refine wS true 3 0 (.agg #[iv h.State, iv h.Irq, iv h.Priority]) 3 [iv h.State, iv h.Irq, iv h.Priority] ar rfl ?_
   intro m y
   refine W_nil (N_then (G_seq (G_seq (G_region (wR 1 [(3, pB d 0), (4, pB f 0), (7, .slice l g.1.length k), (9, pB v 0), (16, .slice i c.Queue.Slots.length j), (17, iv (c.Queue.Slots.length : Int)), (18, iv g.2), (22, pB v 0)] m (wV (iv h.State) m (eL false 1 0 (y.blk 3 rfl)) (wR 1 [(3, pB d 0), (4, pB f 0), (7, .slice l g.1.length k), (9, pB v 0), (16, .slice i c.Queue.Slots.length j), (17, iv (c.Queue.Slots.length : Int)), (18, iv g.2), (24, .bool (h.State == 3))] m (W_nil (N_then ?_)))))))))
   rcases gx_bif hm with ⟨T, hm⟩ | ⟨T, hm⟩
   ·refine gT T (G_seq (G_region (wR 1 [(6, .bool false)] m (W_nil (N_then (G_ret (N_then_ret (N_block_ret (N_then_ret (N_then_ret ?_))))))))))
    obtain rfl := Option.some.inj hm
    obtain rfl := ah _ rfl
    have hm := ag; simp only [Sum.elim_inr] at hm
    refine N_block_ret (N_meet_ret (N_then_ret ?_))
    obtain rfl := Option.some.inj hm
    exact N_ret [.bool false] (rC RVs_nil) (⟨rfl, y.pk []⟩)
   refine gF T (G_skip (N_then (G_seq (G_region (wR 1 [(3, pB d 0), (4, pB f 0), (7, .slice l g.1.length k), (9, pB v 0), (16, .slice i c.Queue.Slots.length j), (17, iv (c.Queue.Slots.length : Int)), (18, iv g.2), (25, pB v 0)] m (wV (iv h.State) m (eL false 1 0 (y.blk 3 rfl)) (wR 1 [(3, pB d 0), (4, pB f 0), (7, .slice l g.1.length k), (9, pB v 0), (16, .slice i c.Queue.Slots.length j), (17, iv (c.Queue.Slots.length : Int)), (18, iv g.2), (27, .bool (h.State != 0))] m (W_nil (N_then ?_)))))))))
   obtain ⟨W, ba, a7⟩ := gx_bind hm
   refine G_meet (fun a w' => ∃ (H : Option Addr), ∃ (G : Nat), ∃ (N : Seg), ownS encWaiter W H G N ∧ Mem [] w w' [[(d, .cells ⟨[.slice t n.length q]⟩ 29 (0, 0))], [(f, .cells ⟨[iv u]⟩ 3 (0, 0))], N] ∧ Sat Tryz.f60.ntmps [(3, pB d 0), (4, pB f 0), (7, .slice H W.length G), (16, .slice i c.Queue.Slots.length j), (17, iv (c.Queue.Slots.length : Int)), (18, iv g.2)] a) ?_ ?_
   ·have hm := ba
    rcases gx_bif hm with ⟨U, hm⟩ | ⟨U, hm⟩
    ·refine gT U (G_region (wR 1 [(3, pB d 0), (4, pB f 0), (7, .slice l g.1.length k), (9, pB v 0), (16, .slice i c.Queue.Slots.length j), (17, iv (c.Queue.Slots.length : Int)), (18, iv g.2), (28, .slice l g.1.length k)] m (wV (.agg #[iv h.State, iv h.Irq, iv h.Priority]) m (eL true 3 0 (y.blk 3 rfl)) ?_)))
     obtain ⟨Z, bf, hm⟩ := gx_bind hm
     refine wC 119 #[.agg #[iv h.State, iv h.Irq, iv h.Priority]] ((c_i_waiterOf m h bf).mono ?_)
     rintro e_ bz ⟨rfl, an⟩
     have au := y.call0 an
     refine ⟨_, rfl, ?_⟩
     refine wL (E := encWaiter) [Z] 1 [iv Z.Irq, iv Z.Priority] 142 au ?_
     intro bt br bu b0 bc ad
     obtain ⟨ay, a6, hm⟩ := gx_bind hm
     refine wA 16 [iv 0, iv 0] 2 ad V (bc.rd ad 4 (by kernel_rfl)) a6 ?_
     intro aj ae bk bl bd av
     refine wR 1 [(3, pB d 0), (4, pB f 0), (7, .slice aj ay.length ae), (16, .slice i c.Queue.Slots.length j), (17, iv (c.Queue.Slots.length : Int)), (18, iv g.2)] bl (W_nil ?_)
     obtain rfl := Option.some.inj hm
     exact N_meet fun a ha => ⟨aj, ae, bk, bd, av.pk [0, 1, 2], ha.s⟩
    refine gF U (G_skip ?_)
    obtain rfl := Option.some.inj hm
    exact N_meet fun a ha => ⟨l, k, I, V, y.pk [0, 1, 2], ha.s⟩
   intro bp bm ⟨H, G, N, bb, aw, a4⟩
   refine N_use a4 ?_
   have hm := a7
   refine N_block (N_then (G_region (wR 2 [(3, pB d 0), (4, pB f 0), (7, .slice H W.length G), (16, .slice i c.Queue.Slots.length j), (17, iv (c.Queue.Slots.length : Int)), (18, iv (w64 (g.2 + 1)))] bm (W_nil ?_))))
   obtain rfl := Option.some.inj hm
   exact N_loop fun a ha => ⟨_, rfl, H, G, N, bb, aw.pk [0, 1, 2], ha.s⟩
  refine gF S (G_exit (N_then_exit (N_then_exit (N_block_eq ?_))))
  obtain rfl := Option.some.inj hm
  obtain rfl := ah _ rfl
  exact N_meet fun a ha => ⟨_, l, k, I, V, rfl, J.pk [0, 1, 2], ha.s⟩
 intro bq al ⟨x, C, A, aa, a9, hout_, D, a5⟩
 refine N_use a5 ?_
 subst hout_
 have hm := ag; simp only [Sum.elim_inl] at hm
 refine N_then (G_seq (G_region (wR 2 [(34, .slice C x.length A), (35, .func (.func 121) #[] #[pB d 0, pB f 0])] al ?_)))
 obtain ⟨ak, bg, hm⟩ := gx_bind hm
 refine wC 120 #[.slice C x.length A, .func (.func 121) #[] #[pB d 0, pB f 0]] ((c_slices_ContainsFunc_120__i_fitsRoutes_1 al x C A (a9.rd D 2 (by kernel_rfl)) n t q (az.mem0 D) d (D.blk 0 (b := d) (o := .cells ⟨[.slice t n.length q]⟩ 29 (0, 0)) (by kernel_rfl)) u f (D.blk 1 (b := f) (o := .cells ⟨[iv u]⟩ 3 (0, 0)) (by kernel_rfl)) bg).mono ?_)
 rintro e_ bn ⟨rfl, ao⟩
 have ax := D.call0 ao
 refine ⟨_, rfl, ?_⟩
 refine wR 2 [(6, .bool (!ak))] bn (W_nil (N_then (G_ret ?_)))
 obtain rfl := Option.some.inj hm
 exact N_ret [.bool (!ak)] (rC RVs_nil) (⟨rfl, ax.pk []⟩)
theorem c_i_IsMachine (w : World) (c : Machine) (k : Option Addr) (j : Nat) (P : rdS encRoute w c.Routes k j) (t : Option Addr) (o : Nat) (a8 : rdS Gx.encB w c.Enabled t o) (u : Option Addr) (q : Nat) (a9 : rdS Gx.encB w c.Raised u q) (h : Option Addr) (i : Nat) (ad : rdD deepInterface w c.Cpus h i) {r : Bool} (hm : M.i_IsMachine c = some r) :
  Calls Tryz.prog 15 #[.agg #[.slice k c.Routes.length j, .slice t c.Enabled.length o, .slice u c.Raised.length q, .slice h c.Cpus.length i]] w fun e w' => e = .returned (.bool r) ∧ Mem [] w w' [] := by
 unfold M.i_IsMachine at hm
 refine cE Tryz.func15 ?_
 have M0 := Mem.refl [] w
 refine G_seq (G_region (wN (.cells ⟨[.slice k c.Routes.length j, .slice t c.Enabled.length o, .slice u c.Raised.length q, .slice h c.Cpus.length i]⟩ 32 (0, 0)) M0 ?_))
 intro f v B
 refine wR 1 [(1, pB f 0)] v (W_nil (N_then (G_seq (G_seq ?_))))
 obtain ⟨ar, ak, ai⟩ := gx_bind hm
 refine G_meet (fun a w' => Mem [] w w' [[(f, .cells ⟨[.slice k c.Routes.length j, .slice t c.Enabled.length o, .slice u c.Raised.length q, .slice h c.Cpus.length i]⟩ 32 (0, 0))]] ∧ Sat Tryz.f15.ntmps [(1, pB f 0), (23, .bool ar)] a) ?_ ?_
 ·have hm := ak
  refine G_region (wR 1 [(1, pB f 0), (5, pB f 0)] v (wV (.slice k c.Routes.length j) v (eL false 1 0 (B.blk 0 rfl)) (wR 1 [(1, pB f 0), (6, .slice k c.Routes.length j), (7, pB f 3)] v (wV (.slice h c.Cpus.length i) v (eL false 1 3 (B.blk 0 rfl)) (wR 1 [(1, pB f 0), (6, .slice k c.Routes.length j), (9, iv (c.Cpus.length : Int))] v ?_)))))
  obtain ⟨aw, am, hm⟩ := gx_bind hm
  refine wC 58 #[.slice k c.Routes.length j, iv (c.Cpus.length : Int)] ((c_i_areRoutes v c.Routes k j (P.mem0 B) (c.Cpus.length : Int) am).mono ?_)
  rintro e_ l ⟨rfl, X⟩
  have z := B.call0 X
  refine ⟨_, rfl, ?_⟩
  refine wR 2 [(1, pB f 0), (12, .bool (!aw))] l ?_
  rcases gx_bif hm with ⟨H, hm⟩ | ⟨H, hm⟩
  ·refine wK 12 true H (wR 11 [(1, pB f 0), (23, .bool true)] l (W_nil ?_))
   obtain rfl := Option.some.inj hm
   exact N_meet fun a ha => ⟨z.pk [0], ha.s⟩
  refine wK 12 false H (wR 1 [(1, pB f 0), (12, .bool false), (13, pB f 1)] l (wV (.slice t c.Enabled.length o) l (eL false 1 1 (z.blk 0 rfl)) (wR 4 [(1, pB f 0), (18, .bool ((c.Enabled.length : Int) != 8))] l ?_)))
  rcases gx_bif hm with ⟨I, hm⟩ | ⟨I, hm⟩
  ·refine wK 18 true I (wR 5 [(1, pB f 0), (23, .bool true)] l (W_nil ?_))
   obtain rfl := Option.some.inj hm
   exact N_meet fun a ha => ⟨z.pk [0], ha.s⟩
  refine wK 18 false I (wR 1 [(1, pB f 0), (18, .bool false), (19, pB f 2)] l (wV (.slice u c.Raised.length q) l (eL false 1 2 (z.blk 0 rfl)) (wR 3 [(1, pB f 0), (23, .bool ((c.Raised.length : Int) != 8))] l (W_nil ?_))))
  obtain rfl := Option.some.inj hm
  exact N_meet fun a ha => ⟨z.pk [0], ha.s⟩
 intro a4 E ⟨G, ae⟩
 refine N_use ae ?_
 have hm := ai
 refine N_then ?_
 rcases gx_bif hm with ⟨J, hm⟩ | ⟨J, hm⟩
 ·refine gT J (G_seq (G_region (wR 1 [(2, .bool false)] E (W_nil (N_then (G_ret (N_then_ret ?_)))))))
  obtain rfl := Option.some.inj hm
  exact N_ret [.bool false] (rC RVs_nil) (⟨rfl, G.pk []⟩)
 refine gF J (G_skip (N_then (G_seq (G_seq (G_region (wR 1 [(1, pB f 0), (24, pB f 3)] E (wV (.slice h c.Cpus.length i) E (eL false 1 3 (G.blk 0 rfl)) (wR 2 [(1, pB f 0), (25, .slice h c.Cpus.length i), (26, iv (c.Cpus.length : Int)), (27, iv 0)] E (W_nil (N_then ?_))))))))))
 obtain ⟨av, ap, Q⟩ := gx_bind hm
 refine G_meet (fun a w' => ∃ (U : Unit), av = .inl U ∧ Mem [] w w' [] ∧ Sat Tryz.f15.ntmps [] a) ?_ ?_
 ·refine G_block (G_while (σ := Int) (ρ := (Unit) ⊕ (Bool)) (fun g a w' => Mem [] w w' [[(f, .cells ⟨[.slice k c.Routes.length j, .slice t c.Enabled.length o, .slice u c.Raised.length q, .slice h c.Cpus.length i]⟩ 32 (0, 0))]] ∧ Sat Tryz.f15.ntmps [(1, pB f 0), (25, .slice h c.Cpus.length i), (26, iv (c.Cpus.length : Int)), (27, iv g)] a) ap (fun a ha => ⟨G.pk [0], ha.s⟩) ?_)
  clear hm
  intro g ba hm R a5 F ⟨C, af⟩
  refine G_use af (G_seq (G_region (wR 1 [(1, pB f 0), (25, .slice h c.Cpus.length i), (26, iv (c.Cpus.length : Int)), (27, iv g), (28, .bool (decide (g < (c.Cpus.length : Int))))] F (W_nil (N_then (G_seq ?_))))))
  rcases gx_bif hm with ⟨K, hm⟩ | ⟨K, hm⟩
  ·refine gT K (G_skip (N_then (G_seq (G_block (G_seq (G_region (wR 1 [(1, pB f 0), (25, .slice h c.Cpus.length i), (26, iv (c.Cpus.length : Int)), (27, iv g), (29, iv g)] F ?_)))))))
   obtain ⟨d, aq, hm⟩ := gx_bind hm
   obtain ⟨bb, T, S, y⟩ := id ad
   obtain ⟨b, n⟩ := gxIdx_fst T aq
   refine wV (elemP h (g.toNat * 4)) F (eI (S.mem0 C) (len_fst T) n) (wV (.agg #[iv d.Mask, .slice ((b 0).1) d.Stack.length ((b 0).2), .slice ((b 1).1) d.Queue.Slots.length ((b 1).2), .slice ((b 2).1) d.Queue.Waiting.length ((b 2).2)]) F (eE true 4 0 (g.toNat * 4) (S.mem0 C) n) (wN (.cells ⟨[iv 0, .slice none 0 0, .slice none 0 0, .slice none 0 0]⟩ 87 (0, 0)) C ?_))
   intro D az aa
   refine wR 1 [(1, pB f 0), (3, iv g), (4, pB D 0), (25, .slice h c.Cpus.length i), (26, iv (c.Cpus.length : Int)), (27, iv g), (31, .agg #[iv d.Mask, .slice ((b 0).1) d.Stack.length ((b 0).2), .slice ((b 1).1) d.Queue.Slots.length ((b 1).2), .slice ((b 2).1) d.Queue.Waiting.length ((b 2).2)])] az (wS true 4 0 (.agg #[iv d.Mask, .slice ((b 0).1) d.Stack.length ((b 0).2), .slice ((b 1).1) d.Queue.Slots.length ((b 1).2), .slice ((b 2).1) d.Queue.Waiting.length ((b 2).2)]) 1 [iv d.Mask, .slice ((b 0).1) d.Stack.length ((b 0).2), .slice ((b 1).1) d.Queue.Slots.length ((b 1).2), .slice ((b 2).1) d.Queue.Waiting.length ((b 2).2)] aa rfl ?_)
   intro V A
   refine W_nil (N_then (G_seq ?_))
   obtain ⟨au, al, aj⟩ := gx_bind hm
   refine G_meet (fun a w' => Mem [] w w' [[(f, .cells ⟨[.slice k c.Routes.length j, .slice t c.Enabled.length o, .slice u c.Raised.length q, .slice h c.Cpus.length i]⟩ 32 (0, 0))]] ∧ Sat Tryz.f15.ntmps [(1, pB f 0), (25, .slice h c.Cpus.length i), (26, iv (c.Cpus.length : Int)), (27, iv g), (42, .bool au)] a) ?_ ?_
   ·have hm := al
    refine G_region (wV (.agg #[iv d.Mask, .slice ((b 0).1) d.Stack.length ((b 0).2), .slice ((b 1).1) d.Queue.Slots.length ((b 1).2), .slice ((b 2).1) d.Queue.Waiting.length ((b 2).2)]) V (eL true 4 0 (A.blk 1 rfl)) ?_)
    obtain ⟨ax, an, hm⟩ := gx_bind hm
    refine wC 59 #[.agg #[iv d.Mask, .slice ((b 0).1) d.Stack.length ((b 0).2), .slice ((b 1).1) d.Queue.Slots.length ((b 1).2), .slice ((b 2).1) d.Queue.Waiting.length ((b 2).2)]] ((c_i_IsInterface V (⟨d.Mask, d.Stack, (⟨d.Queue.Slots, d.Queue.Waiting⟩ : Queue)⟩ : Interface) ((b 0).1) ((b 0).2) ((y.mem0 A).at_ n 0 ⟨Int, Gx.encI, d.Stack, (b 0).1, (b 0).2⟩ (by kernel_rfl)) ((b 1).1) ((b 1).2) ((y.mem0 A).at_ n 1 ⟨Slot, encSlot, d.Queue.Slots, (b 1).1, (b 1).2⟩ (by kernel_rfl)) ((b 2).1) ((b 2).2) ((y.mem0 A).at_ n 2 ⟨Waiter, encWaiter, d.Queue.Waiting, (b 2).1, (b 2).2⟩ (by kernel_rfl)) an).mono ?_)
    rintro e_ x ⟨rfl, Y⟩
    have m := A.call0 Y
    refine ⟨_, rfl, ?_⟩
    refine wR 2 [(1, pB f 0), (3, iv g), (4, pB D 0), (25, .slice h c.Cpus.length i), (26, iv (c.Cpus.length : Int)), (27, iv g), (35, .bool (!ax))] x ?_
    rcases gx_bif hm with ⟨L, hm⟩ | ⟨L, hm⟩
    ·refine wK 35 true L (wR 7 [(1, pB f 0), (25, .slice h c.Cpus.length i), (26, iv (c.Cpus.length : Int)), (27, iv g), (42, .bool true)] x (W_nil ?_))
     obtain rfl := Option.some.inj hm
     exact N_meet fun a ha => ⟨m.pk [0], ha.s⟩
    refine wK 35 false L (wR 1 [(1, pB f 0), (3, iv g), (4, pB D 0), (25, .slice h c.Cpus.length i), (26, iv (c.Cpus.length : Int)), (27, iv g), (35, .bool false), (36, pB f 0)] x (wV (.slice k c.Routes.length j) x (eL false 1 0 (m.blk 0 rfl)) (wR 1 [(1, pB f 0), (4, pB D 0), (25, .slice h c.Cpus.length i), (26, iv (c.Cpus.length : Int)), (27, iv g), (35, .bool false), (37, .slice k c.Routes.length j), (38, iv g)] x (wV (.agg #[iv d.Mask, .slice ((b 0).1) d.Stack.length ((b 0).2), .slice ((b 1).1) d.Queue.Slots.length ((b 1).2), .slice ((b 2).1) d.Queue.Waiting.length ((b 2).2)]) x (eL true 4 0 (m.blk 1 rfl)) ?_))))
    obtain ⟨ay, ao, hm⟩ := gx_bind hm
    refine wC 60 #[.slice k c.Routes.length j, iv g, .agg #[iv d.Mask, .slice ((b 0).1) d.Stack.length ((b 0).2), .slice ((b 1).1) d.Queue.Slots.length ((b 1).2), .slice ((b 2).1) d.Queue.Waiting.length ((b 2).2)]] ((c_i_fitsRoutes x c.Routes k j (P.mem0 m) g (⟨d.Mask, d.Stack, (⟨d.Queue.Slots, d.Queue.Waiting⟩ : Queue)⟩ : Interface) ((b 0).1) ((b 0).2) ((y.mem0 m).at_ n 0 ⟨Int, Gx.encI, d.Stack, (b 0).1, (b 0).2⟩ (by kernel_rfl)) ((b 1).1) ((b 1).2) ((y.mem0 m).at_ n 1 ⟨Slot, encSlot, d.Queue.Slots, (b 1).1, (b 1).2⟩ (by kernel_rfl)) ((b 2).1) ((b 2).2) ((y.mem0 m).at_ n 2 ⟨Waiter, encWaiter, d.Queue.Waiting, (b 2).1, (b 2).2⟩ (by kernel_rfl)) ao).mono ?_)
    rintro e_ a0 ⟨rfl, Z⟩
    have ab := m.call0 Z
    refine ⟨_, rfl, ?_⟩
    refine wR 2 [(1, pB f 0), (25, .slice h c.Cpus.length i), (26, iv (c.Cpus.length : Int)), (27, iv g), (42, .bool (!ay))] a0 (W_nil ?_)
    obtain rfl := Option.some.inj hm
    exact N_meet fun a ha => ⟨ab.pk [0], ha.s⟩
   intro a6 W ⟨O, ag⟩
   refine N_use ag ?_
   have hm := aj
   refine N_then ?_
   rcases gx_bif hm with ⟨N, hm⟩ | ⟨N, hm⟩
   ·refine gT N (G_seq (G_region (wR 1 [(2, .bool false)] W (W_nil (N_then (G_ret (N_block_ret (N_then_ret (N_then_ret ?_)))))))))
    obtain rfl := Option.some.inj hm
    obtain rfl := R _ rfl
    have hm := Q; simp only [Sum.elim_inr] at hm
    refine N_block_ret (N_meet_ret (N_then_ret ?_))
    obtain rfl := Option.some.inj hm
    exact N_ret [.bool false] (rC RVs_nil) (⟨rfl, O.pk []⟩)
   refine gF N (G_skip (N_block (N_then (G_region (wR 2 [(1, pB f 0), (25, .slice h c.Cpus.length i), (26, iv (c.Cpus.length : Int)), (27, iv (w64 (g + 1)))] W (W_nil ?_))))))
   obtain rfl := Option.some.inj hm
   exact N_loop fun a ha => ⟨_, rfl, O.pk [0], ha.s⟩
  refine gF K (G_exit (N_then_exit (N_then_exit (N_block_eq ?_))))
  obtain rfl := Option.some.inj hm
  obtain rfl := R _ rfl
  exact N_meet fun a ha => ⟨_, rfl, C.pk [], ha.s⟩
 intro a7 a3 ⟨U, hout_, ac, ah⟩
 refine N_use ah ?_
 subst hout_
 have hm := Q; simp only [Sum.elim_inl] at hm
 refine N_then (G_seq (G_region (wR 1 [(2, .bool true)] a3 (W_nil (N_then (G_ret ?_))))))
 obtain rfl := Option.some.inj hm
 exact N_ret [.bool true] (rC RVs_nil) (⟨rfl, ac.pk []⟩)
theorem c_l_eqRoute (w : World) (b : Route) (c : Route) {r : Bool} (hm : M.l_eqRoute b c = some r) :
  Calls Tryz.prog 122 #[.agg #[iv b.Priority, iv b.Target], .agg #[iv c.Priority, iv c.Target]] w fun e w' => e = .returned (.bool r) ∧ Mem [] w w' [] := by
 unfold M.l_eqRoute at hm
 refine cE Tryz.func122 ?_
 have M0 := Mem.refl [] w
 refine G_seq (G_region (wN (.cells ⟨[iv b.Priority, iv b.Target]⟩ 129 (0, 0)) M0 ?_))
 intro g w6498 j
 refine wN (.cells ⟨[iv c.Priority, iv c.Target]⟩ 129 (0, 0)) j ?_
 intro f a d
 refine wR 1 [(2, pB g 0), (3, pB f 0)] a (W_nil (N_then (G_seq (G_seq (G_region (wR 1 [(2, pB g 0), (3, pB f 0), (5, pB g 0)] a (wV (iv b.Priority) a (eL false 1 0 (d.blk 0 rfl)) (wR 1 [(2, pB g 0), (3, pB f 0), (6, iv b.Priority), (7, pB f 0)] a (wV (iv c.Priority) a (eL false 1 0 (d.blk 1 rfl)) (wR 1 [(2, pB g 0), (3, pB f 0), (9, .bool (b.Priority != c.Priority))] a (W_nil (N_then ?_))))))))))))
 rcases gx_bif hm with ⟨h, hm⟩ | ⟨h, hm⟩
 ·refine gT h (G_seq (G_region (wR 1 [(4, .bool false)] a (W_nil (N_then (G_ret (N_then_ret ?_)))))))
  obtain rfl := Option.some.inj hm
  exact N_ret [.bool false] (rC RVs_nil) (⟨rfl, d.pk []⟩)
 refine gF h (G_skip (N_then (G_seq (G_seq (G_region (wR 1 [(3, pB f 0), (10, pB g 1)] a (wV (iv b.Target) a (eL false 1 1 (d.blk 0 rfl)) (wR 1 [(11, iv b.Target), (12, pB f 1)] a (wV (iv c.Target) a (eL false 1 1 (d.blk 1 rfl)) (wR 1 [(14, .bool (b.Target != c.Target))] a (W_nil (N_then ?_))))))))))))
 rcases gx_bif hm with ⟨i, hm⟩ | ⟨i, hm⟩
 ·refine gT i (G_seq (G_region (wR 1 [(4, .bool false)] a (W_nil (N_then (G_ret (N_then_ret ?_)))))))
  obtain rfl := Option.some.inj hm
  exact N_ret [.bool false] (rC RVs_nil) (⟨rfl, d.pk []⟩)
 refine gF i (G_skip (N_then (G_seq (G_region (wR 1 [(4, .bool true)] a (W_nil (N_then (G_ret ?_))))))))
 obtain rfl := Option.some.inj hm
 exact N_ret [.bool true] (rC RVs_nil) (⟨rfl, d.pk []⟩)
theorem c_l_eqRouteS (w : World) (c : List Route) (f : Option Addr) (h : Nat) (u : rdS encRoute w c f h) (d : List Route) (g : Option Addr) (i : Nat) (v : rdS encRoute w d g i) {r : Bool} (hm : M.l_eqRouteS c d = some r) :
  Calls Tryz.prog 61 #[.slice f c.length h, .slice g d.length i] w fun e w' => e = .returned (.bool r) ∧ Mem [] w w' [] := by
 unfold M.l_eqRouteS at hm
 refine cE Tryz.func61 ?_
 have M0 := Mem.refl [] w
 refine G_seq (G_region (wR 1 [(0, .slice f c.length h), (1, .slice g d.length i)] w (W_nil (N_then (G_seq (G_seq (G_region (wR 5 [(0, .slice f c.length h), (1, .slice g d.length i), (10, .bool ((c.length : Int) != (d.length : Int)))] w (W_nil (N_then ?_))))))))))
 rcases gx_bif hm with ⟨l, hm⟩ | ⟨l, hm⟩
 ·refine gT l (G_seq (G_region (wR 1 [(4, .bool false)] w (W_nil (N_then (G_ret (N_then_ret ?_)))))))
  obtain rfl := Option.some.inj hm
  exact N_ret [.bool false] (rC RVs_nil) (⟨rfl, M0.pk []⟩)
 refine gF l (G_skip (N_then (G_seq (G_seq (G_region (wR 1 [(0, .slice f c.length h), (1, .slice g d.length i), (5, iv 0)] w (W_nil (N_then ?_))))))))
 obtain ⟨I, H, x⟩ := gx_bind hm
 refine G_meet (fun a w' => ∃ (B : Unit), I = .inl B ∧ Mem [] w w' [] ∧ Sat Tryz.f61.ntmps [] a) ?_ ?_
 ·refine G_block (G_while (σ := Int) (ρ := (Unit) ⊕ (Bool)) (fun b a w' => Mem [] w w' [] ∧ Sat Tryz.f61.ntmps [(0, .slice f c.length h), (1, .slice g d.length i), (5, iv b)] a) H (fun a ha => ⟨M0.pk [], ha.s⟩) ?_)
  clear hm
  intro b O hm y L J ⟨q, E⟩
  refine G_use E (G_seq (G_seq (G_region (wR 4 [(0, .slice f c.length h), (1, .slice g d.length i), (5, iv b), (14, .bool (decide (b < (c.length : Int))))] J (W_nil (N_then ?_))))))
  rcases gx_bif hm with ⟨m, hm⟩ | ⟨m, hm⟩
  ·refine gT m (G_skip (N_then (G_seq (G_block (G_seq (G_quiet (by kernel_rfl) (by kernel_rfl) q (zR [.slice f c.length h, iv b] [(0, .slice f c.length h), (1, .slice g d.length i), (5, iv b), (17, .slice f c.length h), (18, iv b)] ?_)))))))
   obtain ⟨j, z, hm⟩ := gx_bind hm
   refine zV (elemP f (b.toNat * 2)) (fun w_ M_ => (eI (u.mem0 M_) rfl z)) (zV (.agg #[iv j.Priority, iv j.Target]) (fun w_ M_ => (eE true 2 0 (b.toNat * 2) (u.mem0 M_) z)) (zR [.slice g d.length i, iv b] [(0, .slice f c.length h), (1, .slice g d.length i), (5, iv b), (20, .agg #[iv j.Priority, iv j.Target]), (21, .slice g d.length i), (22, iv b)] ?_))
   obtain ⟨k, A, hm⟩ := gx_bind hm
   refine zV (elemP g (b.toNat * 2)) (fun w_ M_ => (eI (v.mem0 M_) rfl A)) (zV (.agg #[iv k.Priority, iv k.Target]) (fun w_ M_ => (eE true 2 0 (b.toNat * 2) (v.mem0 M_) A)) ?_)
   obtain ⟨o, G, hm⟩ := gx_bind hm
   refine Z_call 122 #[.agg #[iv j.Priority, iv j.Target], .agg #[iv k.Priority, iv k.Target]] (.bool o) (by kernel_rfl) (fun w_ => by kernel_rfl) (fun w_ M_ => (c_l_eqRoute w_ j k G).mono fun e w2_ h_ => ⟨h_.1, M_.call0 h_.2⟩) (zR [.bool (!o)] [(0, .slice f c.length h), (1, .slice g d.length i), (5, iv b), (26, .bool (!o))] (Z_end fun C t => (N_then ?_)))
   rcases gx_bif hm with ⟨n, hm⟩ | ⟨n, hm⟩
   ·refine gT n (G_seq (G_region (wR 1 [(4, .bool false)] C (W_nil (N_then (G_ret (N_block_ret (N_then_ret (N_then_ret ?_)))))))))
    obtain rfl := Option.some.inj hm
    obtain rfl := y _ rfl
    have hm := x; simp only [Sum.elim_inr] at hm
    refine N_block_ret (N_meet_ret (N_then_ret ?_))
    obtain rfl := Option.some.inj hm
    exact N_ret [.bool false] (rC RVs_nil) (⟨rfl, t.pk []⟩)
   refine gF n (G_skip (N_block (N_then (G_region (wR 3 [(0, .slice f c.length h), (1, .slice g d.length i), (5, iv (w64 (b + 1)))] C (W_nil ?_))))))
   obtain rfl := Option.some.inj hm
   exact N_loop fun a ha => ⟨_, rfl, t.pk [], ha.s⟩
  refine gF m (G_exit (N_then_exit (N_then_exit (N_block_eq ?_))))
  obtain rfl := Option.some.inj hm
  obtain rfl := y _ rfl
  exact N_meet fun a ha => ⟨_, rfl, q.pk [], ha.s⟩
 intro N K ⟨B, hout_, D, F⟩
 refine N_use F ?_
 subst hout_
 have hm := x; simp only [Sum.elim_inl] at hm
 refine N_then (G_seq (G_region (wR 1 [(4, .bool true)] K (W_nil (N_then (G_ret ?_))))))
 obtain rfl := Option.some.inj hm
 exact N_ret [.bool true] (rC RVs_nil) (⟨rfl, D.pk []⟩)
theorem c_l_eqBoolS (w : World) (c : List Bool) (f : Option Addr) (h : Nat) (t : rdS Gx.encB w c f h) (d : List Bool) (g : Option Addr) (i : Nat) (u : rdS Gx.encB w d g i) {r : Bool} (hm : M.l_eqBoolS c d = some r) :
  Calls Tryz.prog 62 #[.slice f c.length h, .slice g d.length i] w fun e w' => e = .returned (.bool r) ∧ Mem [] w w' [] := by
 unfold M.l_eqBoolS at hm
 refine cE Tryz.func62 ?_
 have M0 := Mem.refl [] w
 refine G_seq (G_region (wR 1 [(0, .slice f c.length h), (1, .slice g d.length i)] w (W_nil (N_then (G_seq (G_seq (G_region (wR 5 [(0, .slice f c.length h), (1, .slice g d.length i), (10, .bool ((c.length : Int) != (d.length : Int)))] w (W_nil (N_then ?_))))))))))
 rcases gx_bif hm with ⟨k, hm⟩ | ⟨k, hm⟩
 ·refine gT k (G_seq (G_region (wR 1 [(4, .bool false)] w (W_nil (N_then (G_ret (N_then_ret ?_)))))))
  obtain rfl := Option.some.inj hm
  exact N_ret [.bool false] (rC RVs_nil) (⟨rfl, M0.pk []⟩)
 refine gF k (G_skip (N_then (G_seq (G_seq (G_region (wR 1 [(0, .slice f c.length h), (1, .slice g d.length i), (5, iv 0)] w (W_nil (N_then ?_))))))))
 obtain ⟨G, F, v⟩ := gx_bind hm
 refine G_meet (fun a w' => ∃ (A : Unit), G = .inl A ∧ Mem [] w w' [] ∧ Sat Tryz.f62.ntmps [] a) ?_ ?_
 ·refine G_block (G_while (σ := Int) (ρ := (Unit) ⊕ (Bool)) (fun b a w' => Mem [] w w' [] ∧ Sat Tryz.f62.ntmps [(0, .slice f c.length h), (1, .slice g d.length i), (5, iv b)] a) F (fun a ha => ⟨M0.pk [], ha.s⟩) ?_)
  clear hm
  intro b L hm x J H ⟨o, D⟩
  refine G_use D (G_seq (G_seq (G_region (wR 4 [(0, .slice f c.length h), (1, .slice g d.length i), (5, iv b), (14, .bool (decide (b < (c.length : Int))))] H (W_nil (N_then ?_))))))
  rcases gx_bif hm with ⟨l, hm⟩ | ⟨l, hm⟩
  ·refine gT l (G_skip (N_then (G_seq (G_block (G_seq (G_quiet (by kernel_rfl) (by kernel_rfl) o (zR [.slice f c.length h, iv b] [(0, .slice f c.length h), (1, .slice g d.length i), (5, iv b), (17, .slice f c.length h), (18, iv b)] ?_)))))))
   obtain ⟨j, y, hm⟩ := gx_bind hm
   refine zV (elemP f (b.toNat * 1)) (fun w_ M_ => (eI (t.mem0 M_) rfl y)) (zV (.bool j) (fun w_ M_ => (eE false 1 0 (b.toNat * 1) (t.mem0 M_) y)) (zR [.slice g d.length i, iv b] [(0, .slice f c.length h), (1, .slice g d.length i), (5, iv b), (20, .bool j), (21, .slice g d.length i), (22, iv b)] ?_))
   obtain ⟨n, z, hm⟩ := gx_bind hm
   refine zV (elemP g (b.toNat * 1)) (fun w_ M_ => (eI (u.mem0 M_) rfl z)) (zV (.bool n) (fun w_ M_ => (eE false 1 0 (b.toNat * 1) (u.mem0 M_) z)) (zR [.bool (!(j == n))] [(0, .slice f c.length h), (1, .slice g d.length i), (5, iv b), (25, .bool (!(j == n)))] (Z_end fun B q => (N_then ?_))))
   rcases gx_bif hm with ⟨m, hm⟩ | ⟨m, hm⟩
   ·refine gT m (G_seq (G_region (wR 1 [(4, .bool false)] B (W_nil (N_then (G_ret (N_block_ret (N_then_ret (N_then_ret ?_)))))))))
    obtain rfl := Option.some.inj hm
    obtain rfl := x _ rfl
    have hm := v; simp only [Sum.elim_inr] at hm
    refine N_block_ret (N_meet_ret (N_then_ret ?_))
    obtain rfl := Option.some.inj hm
    exact N_ret [.bool false] (rC RVs_nil) (⟨rfl, q.pk []⟩)
   refine gF m (G_skip (N_block (N_then (G_region (wR 3 [(0, .slice f c.length h), (1, .slice g d.length i), (5, iv (w64 (b + 1)))] B (W_nil ?_))))))
   obtain rfl := Option.some.inj hm
   exact N_loop fun a ha => ⟨_, rfl, q.pk [], ha.s⟩
  refine gF l (G_exit (N_then_exit (N_then_exit (N_block_eq ?_))))
  obtain rfl := Option.some.inj hm
  obtain rfl := x _ rfl
  exact N_meet fun a ha => ⟨_, rfl, o.pk [], ha.s⟩
 intro K I ⟨A, hout_, C, E⟩
 refine N_use E ?_
 subst hout_
 have hm := v; simp only [Sum.elim_inl] at hm
 refine N_then (G_seq (G_region (wR 1 [(4, .bool true)] I (W_nil (N_then (G_ret ?_))))))
 obtain rfl := Option.some.inj hm
 exact N_ret [.bool true] (rC RVs_nil) (⟨rfl, C.pk []⟩)
theorem c_l_eqIntS (w : World) (c : List Int) (f : Option Addr) (h : Nat) (t : rdS Gx.encI w c f h) (d : List Int) (g : Option Addr) (i : Nat) (u : rdS Gx.encI w d g i) {r : Bool} (hm : M.l_eqIntS c d = some r) :
  Calls Tryz.prog 19 #[.slice f c.length h, .slice g d.length i] w fun e w' => e = .returned (.bool r) ∧ Mem [] w w' [] := by
 unfold M.l_eqIntS at hm
 refine cE Tryz.func19 ?_
 have M0 := Mem.refl [] w
 refine G_seq (G_region (wR 1 [(0, .slice f c.length h), (1, .slice g d.length i)] w (W_nil (N_then (G_seq (G_seq (G_region (wR 5 [(0, .slice f c.length h), (1, .slice g d.length i), (10, .bool ((c.length : Int) != (d.length : Int)))] w (W_nil (N_then ?_))))))))))
 rcases gx_bif hm with ⟨k, hm⟩ | ⟨k, hm⟩
 ·refine gT k (G_seq (G_region (wR 1 [(4, .bool false)] w (W_nil (N_then (G_ret (N_then_ret ?_)))))))
  obtain rfl := Option.some.inj hm
  exact N_ret [.bool false] (rC RVs_nil) (⟨rfl, M0.pk []⟩)
 refine gF k (G_skip (N_then (G_seq (G_seq (G_region (wR 1 [(0, .slice f c.length h), (1, .slice g d.length i), (5, iv 0)] w (W_nil (N_then ?_))))))))
 obtain ⟨G, F, v⟩ := gx_bind hm
 refine G_meet (fun a w' => ∃ (A : Unit), G = .inl A ∧ Mem [] w w' [] ∧ Sat Tryz.f19.ntmps [] a) ?_ ?_
 ·refine G_block (G_while (σ := Int) (ρ := (Unit) ⊕ (Bool)) (fun b a w' => Mem [] w w' [] ∧ Sat Tryz.f19.ntmps [(0, .slice f c.length h), (1, .slice g d.length i), (5, iv b)] a) F (fun a ha => ⟨M0.pk [], ha.s⟩) ?_)
  clear hm
  intro b L hm x J H ⟨o, D⟩
  refine G_use D (G_seq (G_seq (G_region (wR 4 [(0, .slice f c.length h), (1, .slice g d.length i), (5, iv b), (14, .bool (decide (b < (c.length : Int))))] H (W_nil (N_then ?_))))))
  rcases gx_bif hm with ⟨l, hm⟩ | ⟨l, hm⟩
  ·refine gT l (G_skip (N_then (G_seq (G_block (G_seq (G_quiet (by kernel_rfl) (by kernel_rfl) o (zR [.slice f c.length h, iv b] [(0, .slice f c.length h), (1, .slice g d.length i), (5, iv b), (17, .slice f c.length h), (18, iv b)] ?_)))))))
   obtain ⟨j, y, hm⟩ := gx_bind hm
   refine zV (elemP f (b.toNat * 1)) (fun w_ M_ => (eI (t.mem0 M_) rfl y)) (zV (iv j) (fun w_ M_ => (eE false 1 0 (b.toNat * 1) (t.mem0 M_) y)) (zR [.slice g d.length i, iv b] [(0, .slice f c.length h), (1, .slice g d.length i), (5, iv b), (20, iv j), (21, .slice g d.length i), (22, iv b)] ?_))
   obtain ⟨n, z, hm⟩ := gx_bind hm
   refine zV (elemP g (b.toNat * 1)) (fun w_ M_ => (eI (u.mem0 M_) rfl z)) (zV (iv n) (fun w_ M_ => (eE false 1 0 (b.toNat * 1) (u.mem0 M_) z)) (zR [.bool (j != n)] [(0, .slice f c.length h), (1, .slice g d.length i), (5, iv b), (25, .bool (j != n))] (Z_end fun B q => (N_then ?_))))
   rcases gx_bif hm with ⟨m, hm⟩ | ⟨m, hm⟩
   ·refine gT m (G_seq (G_region (wR 1 [(4, .bool false)] B (W_nil (N_then (G_ret (N_block_ret (N_then_ret (N_then_ret ?_)))))))))
    obtain rfl := Option.some.inj hm
    obtain rfl := x _ rfl
    have hm := v; simp only [Sum.elim_inr] at hm
    refine N_block_ret (N_meet_ret (N_then_ret ?_))
    obtain rfl := Option.some.inj hm
    exact N_ret [.bool false] (rC RVs_nil) (⟨rfl, q.pk []⟩)
   refine gF m (G_skip (N_block (N_then (G_region (wR 3 [(0, .slice f c.length h), (1, .slice g d.length i), (5, iv (w64 (b + 1)))] B (W_nil ?_))))))
   obtain rfl := Option.some.inj hm
   exact N_loop fun a ha => ⟨_, rfl, q.pk [], ha.s⟩
  refine gF l (G_exit (N_then_exit (N_then_exit (N_block_eq ?_))))
  obtain rfl := Option.some.inj hm
  obtain rfl := x _ rfl
  exact N_meet fun a ha => ⟨_, rfl, o.pk [], ha.s⟩
 intro K I ⟨A, hout_, C, E⟩
 refine N_use E ?_
 subst hout_
 have hm := v; simp only [Sum.elim_inl] at hm
 refine N_then (G_seq (G_region (wR 1 [(4, .bool true)] I (W_nil (N_then (G_ret ?_))))))
 obtain rfl := Option.some.inj hm
 exact N_ret [.bool true] (rC RVs_nil) (⟨rfl, C.pk []⟩)
theorem c_l_eqSlot (w : World) (b : Slot) (c : Slot) {r : Bool} (hm : M.l_eqSlot b c = some r) :
  Calls Tryz.prog 246 #[.agg #[iv b.State, iv b.Irq, iv b.Priority], .agg #[iv c.State, iv c.Irq, iv c.Priority]] w fun e w' => e = .returned (.bool r) ∧ Mem [] w w' [] := by
 unfold M.l_eqSlot at hm
 refine cE Tryz.func246 ?_
 have M0 := Mem.refl [] w
 refine G_seq (G_region (wN (.cells ⟨[iv b.State, iv b.Irq, iv b.Priority]⟩ 117 (0, 0)) M0 ?_))
 intro g l k
 refine wN (.cells ⟨[iv c.State, iv c.Irq, iv c.Priority]⟩ 117 (0, 0)) k ?_
 intro d a f
 refine wR 1 [(2, pB g 0), (3, pB d 0)] a (W_nil (N_then (G_seq (G_seq (G_region (wR 1 [(2, pB g 0), (3, pB d 0), (5, pB g 0)] a (wV (iv b.State) a (eL false 1 0 (f.blk 0 rfl)) (wR 1 [(2, pB g 0), (3, pB d 0), (6, iv b.State), (7, pB d 0)] a (wV (iv c.State) a (eL false 1 0 (f.blk 1 rfl)) (wR 1 [(2, pB g 0), (3, pB d 0), (9, .bool (b.State != c.State))] a (W_nil (N_then ?_))))))))))))
 rcases gx_bif hm with ⟨h, hm⟩ | ⟨h, hm⟩
 ·refine gT h (G_seq (G_region (wR 1 [(4, .bool false)] a (W_nil (N_then (G_ret (N_then_ret ?_)))))))
  obtain rfl := Option.some.inj hm
  exact N_ret [.bool false] (rC RVs_nil) (⟨rfl, f.pk []⟩)
 refine gF h (G_skip (N_then (G_seq (G_seq (G_region (wR 1 [(2, pB g 0), (3, pB d 0), (10, pB g 1)] a (wV (iv b.Irq) a (eL false 1 1 (f.blk 0 rfl)) (wR 1 [(2, pB g 0), (3, pB d 0), (11, iv b.Irq), (12, pB d 1)] a (wV (iv c.Irq) a (eL false 1 1 (f.blk 1 rfl)) (wR 1 [(2, pB g 0), (3, pB d 0), (14, .bool (b.Irq != c.Irq))] a (W_nil (N_then ?_))))))))))))
 rcases gx_bif hm with ⟨i, hm⟩ | ⟨i, hm⟩
 ·refine gT i (G_seq (G_region (wR 1 [(4, .bool false)] a (W_nil (N_then (G_ret (N_then_ret ?_)))))))
  obtain rfl := Option.some.inj hm
  exact N_ret [.bool false] (rC RVs_nil) (⟨rfl, f.pk []⟩)
 refine gF i (G_skip (N_then (G_seq (G_seq (G_region (wR 1 [(3, pB d 0), (15, pB g 2)] a (wV (iv b.Priority) a (eL false 1 2 (f.blk 0 rfl)) (wR 1 [(16, iv b.Priority), (17, pB d 2)] a (wV (iv c.Priority) a (eL false 1 2 (f.blk 1 rfl)) (wR 1 [(19, .bool (b.Priority != c.Priority))] a (W_nil (N_then ?_))))))))))))
 rcases gx_bif hm with ⟨j, hm⟩ | ⟨j, hm⟩
 ·refine gT j (G_seq (G_region (wR 1 [(4, .bool false)] a (W_nil (N_then (G_ret (N_then_ret ?_)))))))
  obtain rfl := Option.some.inj hm
  exact N_ret [.bool false] (rC RVs_nil) (⟨rfl, f.pk []⟩)
 refine gF j (G_skip (N_then (G_seq (G_region (wR 1 [(4, .bool true)] a (W_nil (N_then (G_ret ?_))))))))
 obtain rfl := Option.some.inj hm
 exact N_ret [.bool true] (rC RVs_nil) (⟨rfl, f.pk []⟩)
end Go.Proofs.YtllhajkgkghhdaaGreat
