/- The walks, printed by program: whenever the model gives r, the call returns r. Part 4. -/
import Derived.Test.YtlfligjpmodefaaM
import Derived.Test.YtlfligjpmodefaaGxZ
import Derived.Test.YtlfligjpmodefaaProg
import Derived.Test.YtlfligjpmodefaaSh
import Derived.Test.YtlfligjpmodefaaC3
set_option linter.unusedVariables false
set_option maxRecDepth 100000
set_option maxHeartbeats 4000000
namespace Go.Proofs.Ytlfligjpmodefaa
open Go.Gx
theorem c_s_l1Put (w : World) (d : List Int) (c : Option Addr) (b : Nat) (l : Seg) (A : ownS Gx.encI d c b l) (g : Int) (hA : ∀ q ∈ List.flatten [l], w.heap[q.1]? = some q.2) (hN : (idsOf [l]).Nodup) {r : (List Int)} (hm : M.s_l1Put d g = some r) :
  Calls Try.prog 87 #[.slice c d.length b, iv g] w fun e w' => ∃ (an : Option Addr) (ah : Nat) (ao : Seg), e = .returned (.slice an r.length ah) ∧ ownS Gx.encI r an ah ao ∧ Mem (idsOf [l]) w w' [ao] := by
 unfold M.s_l1Put at hm
 refine cE Try.func87 ?_
 have M0 := Mem.start' w [l] hA hN
 refine G_seq (G_region (wR 1 [(0, .slice c d.length b), (1, iv g)] w (W_nil (N_then (G_seq (G_region (wR 1 [(0, .slice c d.length b), (1, iv g), (5, iv 0)] w (W_nil (N_then (G_seq ?_))))))))))
 obtain ⟨k, bm, bh⟩ := gx_bind hm
 refine G_meet (fun a w' => Mem (idsOf [l]) w w' [l] ∧ Sat Try.f87.ntmps [(0, .slice c d.length b), (1, iv g), (5, iv k)] a) ?_ ?_
 ·refine G_block (G_while (σ := Int) (ρ := Int) (fun n a w' => Mem (idsOf [l]) w w' [l] ∧ Sat Try.f87.ntmps [(0, .slice c d.length b), (1, iv g), (5, iv n)] a) bm (fun a ha => ⟨M0.pk [0], ha.s⟩) ?_)
  clear hm
  intro n ch hm bl b5 F ⟨J, a8⟩
  refine G_use a8 (G_seq (G_seq ?_))
  obtain ⟨bn, bi, bf⟩ := gx_bind hm
  refine G_meet (fun a w' => Mem (idsOf [l]) w w' [l] ∧ Sat Try.f87.ntmps [(0, .slice c d.length b), (1, iv g), (5, iv n), (17, .bool bn)] a) ?_ ?_
  ·have hm := bi
   refine G_region (wR 5 [(0, .slice c d.length b), (1, iv g), (5, iv n), (10, .bool (decide (n < (d.length : Int))))] F ?_)
   rcases gx_bif hm with ⟨Q, hm⟩ | ⟨Q, hm⟩
   ·refine wK 10 true Q (wR 2 [(0, .slice c d.length b), (1, iv g), (5, iv n), (10, .bool true), (11, .slice c d.length b), (12, iv n)] F ?_)
    obtain ⟨ap, ai, hm⟩ := gx_bind hm
    refine wV (elemP c (n.toNat * 1)) F (eI (A.rd J 0 (by kernel_rfl)) rfl ai) (wV (iv ap) F (eE false 1 0 (n.toNat * 1) (A.rd J 0 (by kernel_rfl)) ai) (wR 3 [(0, .slice c d.length b), (1, iv g), (5, iv n), (17, .bool (decide (ap < g)))] F (W_nil ?_)))
    obtain rfl := Option.some.inj hm
    exact N_meet fun a ha => ⟨J.pk [0], ha.s⟩
   refine wK 10 false Q (wR 7 [(0, .slice c d.length b), (1, iv g), (5, iv n), (17, .bool false)] F (W_nil ?_))
   obtain rfl := Option.some.inj hm
   exact N_meet fun a ha => ⟨J.pk [0], ha.s⟩
  intro b6 bt ⟨Z, a9⟩
  refine N_use a9 ?_
  have hm := bf
  refine N_then ?_
  rcases gx_bif hm with ⟨S, hm⟩ | ⟨S, hm⟩
  ·refine gT S (G_skip (N_then (G_block (G_region (wR 3 [(0, .slice c d.length b), (1, iv g), (5, iv (w64 (n + 1)))] bt (W_nil (N_block ?_)))))))
   obtain rfl := Option.some.inj hm
   exact N_loop fun a ha => ⟨_, rfl, Z.pk [0], ha.s⟩
  refine gF S (G_exit (N_then_exit (N_then_exit (N_block_eq ?_))))
  obtain rfl := Option.some.inj hm
  obtain rfl := bl _ rfl
  exact N_meet fun a ha => ⟨Z.pk [0], ha.s⟩
 intro b7 G ⟨K, ba⟩
 refine N_use ba ?_
 have hm := bh
 refine N_then (G_seq (G_seq ?_))
 obtain ⟨am, bj, bg⟩ := gx_bind hm
 refine G_meet (fun a w' => Mem (idsOf [l]) w w' [l] ∧ Sat Try.f87.ntmps [(0, .slice c d.length b), (1, iv g), (5, iv k), (31, .bool am)] a) ?_ ?_
 ·have hm := bj
  refine G_region (wR 5 [(0, .slice c d.length b), (1, iv g), (5, iv k), (24, .bool (decide (k < (d.length : Int))))] G ?_)
  rcases gx_bif hm with ⟨T, hm⟩ | ⟨T, hm⟩
  ·refine wK 24 true T (wR 2 [(0, .slice c d.length b), (1, iv g), (5, iv k), (24, .bool true), (25, .slice c d.length b), (26, iv k)] G ?_)
   obtain ⟨aq, aj, hm⟩ := gx_bind hm
   refine wV (elemP c (k.toNat * 1)) G (eI (A.rd K 0 (by kernel_rfl)) rfl aj) (wV (iv aq) G (eE false 1 0 (k.toNat * 1) (A.rd K 0 (by kernel_rfl)) aj) (wR 3 [(0, .slice c d.length b), (1, iv g), (5, iv k), (31, .bool (aq == g))] G (W_nil ?_)))
   obtain rfl := Option.some.inj hm
   exact N_meet fun a ha => ⟨K.pk [0], ha.s⟩
  refine wK 24 false T (wR 7 [(0, .slice c d.length b), (1, iv g), (5, iv k), (31, .bool false)] G (W_nil ?_))
  obtain rfl := Option.some.inj hm
  exact N_meet fun a ha => ⟨K.pk [0], ha.s⟩
 intro b8 bu ⟨aa, bb⟩
 refine N_use bb ?_
 have hm := bg
 refine N_then ?_
 rcases gx_bif hm with ⟨U, hm⟩ | ⟨U, hm⟩
 ·refine gT U (G_seq (G_region (wR 2 [(4, .slice c d.length b)] bu (W_nil (N_then (G_ret (N_then_ret ?_)))))))
  obtain rfl := Option.some.inj hm
  exact N_ret [.slice c d.length b] (rC RVs_nil) (⟨c, b, l, rfl, A, aa.pk [0]⟩)
 refine gF U (G_skip (N_then (G_seq ?_)))
 obtain ⟨N, ak, hm⟩ := gx_bind hm
 obtain ⟨H, bc, hm⟩ := gx_bind hm
 obtain ⟨I, bd, hm⟩ := gx_bind hm
 obtain ⟨O, al, hm⟩ := gx_bind hm
 refine G_sub [(0, .slice c d.length b), (1, iv g), (5, iv k), (31, .bool am)] (by kernel_rfl) (G_dagL 11 [[], [], [], [1, 2], [0, 3], [], [5], [4, 6], [], [], [8, 9]] [[], [], [], [], [0], [], [], [4], [], [], []] [[], [], [], [], [], [], [], [6], [], [], []] [[], [], [], [], [], [], [], [], [], [], []] [[], [], [], [], [], [], [], [], [], [], []] [[], [], [], [], [], [], [], [], [], [], []] (fun _ => []) (fun i => ([fun f v s => ∃ (B : Option Addr) (x : Nat), v = (.slice B ([] : List Int).length x : Value) ∧ ownS Gx.encI ([] : List Int) B x s, fun f v s => v = (.slice c d.length b : Value) ∧ s = [], fun f v s => v = (iv k : Value) ∧ s = [], fun f v s => v = (.slice (subP c (0 : Int).toNat b 1) N.length (b - (0 : Int).toNat) : Value) ∧ s = [], fun f v s => ∃ (C : Option Addr) (y : Nat), v = (.slice C H.length y : Value) ∧ ownS Gx.encI H C y s, fun f v s => v = (iv g : Value) ∧ s = [], fun f v s => ∃ (u : Option Addr) (t : Nat), v = (.slice u [g].length t : Value) ∧ ownS Gx.encI [g] u t s, fun f v s => ∃ (D : Option Addr) (z : Nat), v = (.slice D I.length z : Value) ∧ ownS Gx.encI I D z s, fun f v s => v = (.slice c d.length b : Value) ∧ s = [], fun f v s => v = (iv k : Value) ∧ s = [], fun f v s => v = (.slice (subP c k.toNat b 1) O.length (b - k.toNat) : Value) ∧ s = []] : List ((Nat → Value) → Value → Seg → Prop)).getD i (fun _ _ _ => False)) (fun j f v => ∃ s, (fun i => ([fun f v s => ∃ (B : Option Addr) (x : Nat), v = (.slice B ([] : List Int).length x : Value) ∧ ownS Gx.encI ([] : List Int) B x s, fun f v s => v = (.slice c d.length b : Value) ∧ s = [], fun f v s => v = (iv k : Value) ∧ s = [], fun f v s => v = (.slice (subP c (0 : Int).toNat b 1) N.length (b - (0 : Int).toNat) : Value) ∧ s = [], fun f v s => ∃ (C : Option Addr) (y : Nat), v = (.slice C H.length y : Value) ∧ ownS Gx.encI H C y s, fun f v s => v = (iv g : Value) ∧ s = [], fun f v s => ∃ (u : Option Addr) (t : Nat), v = (.slice u [g].length t : Value) ∧ ownS Gx.encI [g] u t s, fun f v s => ∃ (D : Option Addr) (z : Nat), v = (.slice D I.length z : Value) ∧ ownS Gx.encI I D z s, fun f v s => v = (.slice c d.length b : Value) ∧ s = [], fun f v s => v = (iv k : Value) ∧ s = [], fun f v s => v = (.slice (subP c k.toNat b 1) O.length (b - k.toNat) : Value) ∧ s = []] : List ((Nat → Value) → Value → Seg → Prop)).getD i (fun _ _ _ => False)) j f v s) [] [6, 7, 10] [6, 7] (fun _ _ _ s h => ⟨s, h⟩) (by kernel_rfl) (by kernel_rfl) (aa.preNil 11) (by kernel_rfl) (by kernel_rfl) (by kernel_rfl) (by kernel_rfl) (allOb_cons ?_ (allOb_cons ?_ (allOb_cons ?_ (allOb_cons ?_ (allOb_cons ?_ (allOb_cons ?_ (allOb_cons ?_ (allOb_cons ?_ (allOb_cons ?_ (allOb_cons ?_ (allOb_cons ?_ allOb_nil))))))))))) ?_)
 ·intro m o
  intro R b9 ar
  refine wL (E := Gx.encI) ([] : List Int) 0 [] 3 ar ?_
  intro B x bo ca V au
  exact W_nil (oE (.slice B ([] : List Int).length x) bo ⟨B, x, rfl, V⟩ (Mem.mid au))
 ·intro m o
  intro R bv av
  exact wR 1 [(34, .slice c d.length b)] bv (W_nil (oE (.slice c d.length b) [] ⟨by kernel_rfl, rfl⟩ av))
 ·intro m o
  intro R bw aw
  exact wR 1 [(35, iv k)] bw (W_nil (oE (iv k) [] ⟨by kernel_rfl, rfl⟩ aw))
 ·intro m o
  intro v1_ hb1_
  obtain ⟨rfl, _⟩ := hb1_
  intro v2_ hb2_
  obtain ⟨rfl, _⟩ := hb2_
  intro R bx ab
  exact wV (.slice (subP c (0 : Int).toNat b 1) N.length (b - (0 : Int).toNat)) bx (E_slice (E := Gx.encI) _ _ _ _ d.length 0 k rfl (by kernel_rfl) (Or.inl ⟨rfl, rfl⟩) (Or.inr ⟨_, rfl, by kernel_rfl⟩) (by kernel_rfl) (A.rd ab 0 (by kernel_rfl)) rfl ak) (W_nil (oE (.slice (subP c (0 : Int).toNat b 1) N.length (b - (0 : Int).toNat)) [] ⟨by kernel_rfl, rfl⟩ ab))
 ·intro m o
  intro v0_ hb0_
  obtain ⟨B, x, rfl, V⟩ := hb0_
  intro v3_ hb3_
  obtain ⟨rfl, _⟩ := hb3_
  intro R cb ac
  refine wA 8 [iv 0] 2 ac V ((A.rd ac 0 (by kernel_rfl)).sliceM ak) bc ?_
  intro C y bp cc W ax
  exact W_nil (oE (.slice C H.length y) bp ⟨C, y, rfl, W⟩ (Mem.takeOver ax))
 ·intro m o
  intro R bz ay
  exact wR 1 [(38, iv g)] bz (W_nil (oE (iv g) [] ⟨by kernel_rfl, rfl⟩ ay))
 ·intro m o
  intro v5_ hb5_
  obtain ⟨rfl, _⟩ := hb5_
  intro R cd az
  refine wL (E := Gx.encI) [g] 1 [iv g] 3 az ?_
  intro u t bq ce L a0
  exact W_nil (oE (.slice u [g].length t) bq ⟨u, t, rfl, L⟩ (Mem.mid a0))
 ·intro m o
  intro v4_ hb4_
  obtain ⟨C, y, rfl, W⟩ := hb4_
  intro v6_ hb6_
  obtain ⟨u, t, rfl, L⟩ := hb6_
  intro R cf ad
  refine wA 8 [iv 0] 2 ad W (L.rd ad 3 (by kernel_rfl)) bd ?_
  intro D z br cg X a3
  exact W_nil (oE (.slice D I.length z) br ⟨D, z, rfl, X⟩ (Mem.takeOver a3))
 ·intro m o
  intro R b0 a4
  exact wR 1 [(41, .slice c d.length b)] b0 (W_nil (oE (.slice c d.length b) [] ⟨by kernel_rfl, rfl⟩ a4))
 ·intro m o
  intro R b1 a5
  exact wR 1 [(42, iv k)] b1 (W_nil (oE (iv k) [] ⟨by kernel_rfl, rfl⟩ a5))
 ·intro m o
  intro v8_ hb8_
  obtain ⟨rfl, _⟩ := hb8_
  intro v9_ hb9_
  obtain ⟨rfl, _⟩ := hb9_
  intro R b2 ae
  exact wV (.slice (subP c k.toNat b 1) O.length (b - k.toNat)) b2 (E_slice (E := Gx.encI) _ _ _ _ d.length k (d.length : Int) rfl (by kernel_rfl) (Or.inr ⟨_, rfl, by kernel_rfl⟩) (Or.inl ⟨rfl, rfl⟩) (by kernel_rfl) (A.rd ae 0 (by kernel_rfl)) rfl al) (W_nil (oE (.slice (subP c k.toNat b 1) O.length (b - k.toNat)) [] ⟨by kernel_rfl, rfl⟩ ae))
 intro m o
 intro v6_ hb6_
 obtain ⟨u, t, rfl, L⟩ := hb6_
 intro v7_ hb7_
 obtain ⟨D, z, rfl, X⟩ := hb7_
 intro v10_ hb10_
 obtain ⟨rfl, _⟩ := hb10_
 intro b3 a6
 have af : Mem (idsOf [l]) w b3 [l, (m 6), (m 7)] := a6
 obtain ⟨ag, be, hm⟩ := gx_bind hm
 refine wA 8 [iv 0] 2 af X ((A.rd af 0 (by kernel_rfl)).sliceM al) be ?_
 intro Y P bs b4 bk a7
 refine wR 1 [(4, .slice Y ag.length P)] b4 (W_nil (N_then (G_ret ?_)))
 obtain rfl := Option.some.inj hm
 exact N_ret [.slice Y ag.length P] (rC RVs_nil) (⟨Y, P, bs, rfl, bk, a7.pk [2]⟩)
theorem c_s_l18Step (w : World) (l : List Int) (g : Option Addr) (k : Nat) (V : rdS Gx.encI w l g k) (o : List Balloon) (m : Option Addr) (n : Nat) (ae : rdD deepBalloon w o m n) (q : Int) (X : Int) {r : (List Int) × (List Balloon) × Bool} (hm : M.s_l18Step l o q X = some r) :
  Calls Try.prog 68 #[.slice g l.length k, .slice m o.length n, iv q, iv X] w fun e w' => ∃ (bf : Option Addr) (a8 : Nat) (bj : Seg), ∃ (bg : Option Addr) (a9 : Nat) (bk : Seg) (bl : Seg), e = .returned (.tuple #[.slice bf r.1.length a8, .slice bg r.2.1.length a9, .bool r.2.2]) ∧ (r.2.2 = true → ownS Gx.encI r.1 bf a8 bj) ∧ (r.2.2 = true → ownD deepBalloon r.2.1 bg a9 bk bl) ∧ Mem [] w w' [bj, bk, bl] := by
 unfold M.s_l18Step at hm
 refine cE Try.func68 ?_
 have M0 := Mem.refl [] w
 refine G_seq (G_region (wR 3 [(0, .slice g l.length k), (1, .slice m o.length n), (2, iv q), (3, iv X)] w (W_nil (N_then (G_seq (G_region (wR 2 [(0, .slice g l.length k), (1, .slice m o.length n), (2, iv q), (3, iv X), (13, .slice m o.length n), (14, iv q)] w ?_)))))))
 obtain ⟨b, c1, hm⟩ := gx_bind hm
 obtain ⟨ej, be, ba, W⟩ := id ae
 obtain ⟨c, N⟩ := gxIdx_fst be c1
 refine wV (elemP m (q.toNat * 3)) w (eI (ba.mem0 M0) (len_fst be) N) (wV (.agg #[iv b.Guest, iv b.Goal, .slice ((c 0).1) b.Gave.length ((c 0).2)]) w (eE true 3 0 (q.toNat * 3) (ba.mem0 M0) N) (wN (.cells ⟨[iv 0, iv 0, .slice none 0 0]⟩ 50 (0, 0)) M0 ?_))
 intro d eb bw
 refine wS true 3 0 (.agg #[iv b.Guest, iv b.Goal, .slice ((c 0).1) b.Gave.length ((c 0).2)]) 0 [iv b.Guest, iv b.Goal, .slice ((c 0).1) b.Gave.length ((c 0).2)] bw rfl ?_
 intro x K
 refine W_nil (N_then (G_seq (G_seq (G_region (wR 2 [(0, .slice g l.length k), (1, .slice m o.length n), (2, iv q), (11, pB d 0), (18, .bool (decide (X < 0)))] x (W_nil (N_then ?_)))))))
 rcases gx_bif hm with ⟨af, hm⟩ | ⟨af, hm⟩
 ·refine gT af (G_seq (G_seq (G_region (wR 1 [(0, .slice g l.length k), (1, .slice m o.length n), (2, iv q), (11, pB d 0), (19, pB d 2)] x (wV (.slice ((c 0).1) b.Gave.length ((c 0).2)) x (eL false 1 2 (K.blk 0 rfl)) (wR 2 [(0, .slice g l.length k), (1, .slice m o.length n), (2, iv q), (11, pB d 0), (21, iv (b.Gave.length : Int)), (22, pB d 1)] x (wV (iv b.Goal) x (eL false 1 1 (K.blk 0 rfl)) (wR 1 [(0, .slice g l.length k), (1, .slice m o.length n), (2, iv q), (11, pB d 0), (24, .bool (decide ((b.Gave.length : Int) ≤ b.Goal)))] x (W_nil (N_then ?_))))))))))
  rcases gx_bif hm with ⟨ag, hm⟩ | ⟨ag, hm⟩
  ·refine gT ag (G_seq (G_region (wR 5 [(8, .slice g l.length k), (9, .slice m o.length n), (10, .bool false)] x (W_nil (N_then (G_ret (N_then_ret (N_then_ret ?_))))))))
   obtain rfl := Option.some.inj hm
   exact N_ret [.slice g l.length k, .slice m o.length n, .bool false] (rC (rC (rC RVs_nil))) (⟨g, k, [], m, n, [], [], rfl, (fun h_ => by cases h_), (fun h_ => by cases h_), K.pk [100000, 100001, 100002]⟩)
  refine gF ag (G_skip (N_then (G_seq ?_)))
  obtain ⟨T, bb, hm⟩ := gx_bind hm
  obtain ⟨O, ct, hm⟩ := gx_bind hm
  obtain ⟨U, bd, hm⟩ := gx_bind hm
  refine G_sub [(0, .slice g l.length k), (1, .slice m o.length n), (2, iv q), (11, pB d 0), (24, .bool (decide ((b.Gave.length : Int) ≤ b.Goal)))] (by kernel_rfl) (G_dagL 15 [[], [], [1], [2], [3], [], [5], [0, 4, 6], [], [], [], [10], [], [12], [13]] [[], [], [], [], [], [], [], [], [], [], [], [], [], [], []] [[], [], [], [], [], [], [], [], [], [], [], [], [], [], []] [[], [], [], [], [], [], [], [], [], [], [], [], [], [], []] [[], [], [], [], [], [], [], [], [], [], [], [], [], [], []] [[], [], [], [], [], [], [], [], [], [], [], [], [], [], []] (fun _ => []) (fun i => ([fun f v s => v = (.slice g l.length k : Value) ∧ s = [], fun f v s => v = (pB d 2 : Value) ∧ s = [], fun f v s => v = (.slice ((c 0).1) b.Gave.length ((c 0).2) : Value) ∧ s = [], fun f v s => v = (elemP ((c 0).1) ((0 : Int).toNat * 1) : Value) ∧ s = [], fun f v s => v = (iv T : Value) ∧ s = [], fun f v s => v = (pB d 0 : Value) ∧ s = [], fun f v s => v = (iv b.Guest : Value) ∧ s = [], fun f v s => ∃ (D : Option Addr) (A : Nat), v = (.slice D O.length A : Value) ∧ ownS Gx.encI O D A s, fun f v s => v = (.slice m o.length n : Value) ∧ s = [], fun f v s => v = (iv q : Value) ∧ s = [], fun f v s => v = (pB d 1 : Value) ∧ s = [], fun f v s => v = (iv b.Goal : Value) ∧ s = [], fun f v s => v = (pB d 2 : Value) ∧ s = [], fun f v s => v = (.slice ((c 0).1) b.Gave.length ((c 0).2) : Value) ∧ s = [], fun f v s => v = (.slice (subP ((c 0).1) (1 : Int).toNat ((c 0).2) 1) U.length (((c 0).2) - (1 : Int).toNat) : Value) ∧ s = []] : List ((Nat → Value) → Value → Seg → Prop)).getD i (fun _ _ _ => False)) (fun j f v => ∃ s, (fun i => ([fun f v s => v = (.slice g l.length k : Value) ∧ s = [], fun f v s => v = (pB d 2 : Value) ∧ s = [], fun f v s => v = (.slice ((c 0).1) b.Gave.length ((c 0).2) : Value) ∧ s = [], fun f v s => v = (elemP ((c 0).1) ((0 : Int).toNat * 1) : Value) ∧ s = [], fun f v s => v = (iv T : Value) ∧ s = [], fun f v s => v = (pB d 0 : Value) ∧ s = [], fun f v s => v = (iv b.Guest : Value) ∧ s = [], fun f v s => ∃ (D : Option Addr) (A : Nat), v = (.slice D O.length A : Value) ∧ ownS Gx.encI O D A s, fun f v s => v = (.slice m o.length n : Value) ∧ s = [], fun f v s => v = (iv q : Value) ∧ s = [], fun f v s => v = (pB d 1 : Value) ∧ s = [], fun f v s => v = (iv b.Goal : Value) ∧ s = [], fun f v s => v = (pB d 2 : Value) ∧ s = [], fun f v s => v = (.slice ((c 0).1) b.Gave.length ((c 0).2) : Value) ∧ s = [], fun f v s => v = (.slice (subP ((c 0).1) (1 : Int).toNat ((c 0).2) 1) U.length (((c 0).2) - (1 : Int).toNat) : Value) ∧ s = []] : List ((Nat → Value) → Value → Seg → Prop)).getD i (fun _ _ _ => False)) j f v s) [] [7, 8, 9, 11, 14] [7] (fun _ _ _ s h => ⟨s, h⟩) (by kernel_rfl) (by kernel_rfl) (K.preNil 15) (by kernel_rfl) (by kernel_rfl) (by kernel_rfl) (by kernel_rfl) (allOb_cons ?_ (allOb_cons ?_ (allOb_cons ?_ (allOb_cons ?_ (allOb_cons ?_ (allOb_cons ?_ (allOb_cons ?_ (allOb_cons ?_ (allOb_cons ?_ (allOb_cons ?_ (allOb_cons ?_ (allOb_cons ?_ (allOb_cons ?_ (allOb_cons ?_ (allOb_cons ?_ allOb_nil))))))))))))))) ?_)
  ·intro t y
   intro R dc bx
   exact wR 1 [(27, .slice g l.length k)] dc (W_nil (oE (.slice g l.length k) [] ⟨by kernel_rfl, rfl⟩ bx))
  ·intro t y
   intro R dd bz
   exact wR 1 [(28, pB d 2)] dd (W_nil (oE (pB d 2) [] ⟨by kernel_rfl, rfl⟩ bz))
  ·intro t y
   intro v1_ hb1_
   obtain ⟨rfl, _⟩ := hb1_
   intro R de aq
   exact wV (.slice ((c 0).1) b.Gave.length ((c 0).2)) de (eL false 1 2 (aq.blk 0 rfl)) (W_nil (oE (.slice ((c 0).1) b.Gave.length ((c 0).2)) [] ⟨by kernel_rfl, rfl⟩ aq))
  ·intro t y
   intro v2_ hb2_
   obtain ⟨rfl, _⟩ := hb2_
   intro R df ar
   exact wV (elemP ((c 0).1) ((0 : Int).toNat * 1)) df (eI ((W.mem0 ar).at_ N 0 ⟨Int, Gx.encI, b.Gave, (c 0).1, (c 0).2⟩ (by kernel_rfl)) rfl bb) (W_nil (oE (elemP ((c 0).1) ((0 : Int).toNat * 1)) [] ⟨by kernel_rfl, rfl⟩ ar))
  ·intro t y
   intro v3_ hb3_
   obtain ⟨rfl, _⟩ := hb3_
   intro R dg au
   exact wV (iv T) dg (eE false 1 0 ((0 : Int).toNat * 1) ((W.mem0 au).at_ N 0 ⟨Int, Gx.encI, b.Gave, (c 0).1, (c 0).2⟩ (by kernel_rfl)) bb) (W_nil (oE (iv T) [] ⟨by kernel_rfl, rfl⟩ au))
  ·intro t y
   intro R dh b0
   exact wR 1 [(32, pB d 0)] dh (W_nil (oE (pB d 0) [] ⟨by kernel_rfl, rfl⟩ b0))
  ·intro t y
   intro v5_ hb5_
   obtain ⟨rfl, _⟩ := hb5_
   intro R di av
   exact wV (iv b.Guest) di (eL false 1 0 (av.blk 0 rfl)) (W_nil (oE (iv b.Guest) [] ⟨by kernel_rfl, rfl⟩ av))
  ·intro t y
   intro v0_ hb0_
   obtain ⟨rfl, _⟩ := hb0_
   intro v4_ hb4_
   obtain ⟨rfl, _⟩ := hb4_
   intro v6_ hb6_
   obtain ⟨rfl, _⟩ := hb6_
   intro R dj aw
   refine wC 61 #[.slice g l.length k, iv T, iv b.Guest] ((c_s_l18Owner dj l g k (V.mem0 aw) T b.Guest ct).mono ?_)
   rintro e_ ec ⟨D, A, c4, rfl, ak, bp⟩
   refine ⟨_, rfl, ?_⟩
   exact W_nil (oE (.slice D O.length A) c4 ⟨D, A, rfl, ak⟩ (Mem.callMid aw bp))
  ·intro t y
   intro R dk b1
   exact wR 1 [(35, .slice m o.length n)] dk (W_nil (oE (.slice m o.length n) [] ⟨by kernel_rfl, rfl⟩ b1))
  ·intro t y
   intro R dl b2
   exact wR 1 [(36, iv q)] dl (W_nil (oE (iv q) [] ⟨by kernel_rfl, rfl⟩ b2))
  ·intro t y
   intro R dm b3
   exact wR 1 [(37, pB d 1)] dm (W_nil (oE (pB d 1) [] ⟨by kernel_rfl, rfl⟩ b3))
  ·intro t y
   intro v10_ hb10_
   obtain ⟨rfl, _⟩ := hb10_
   intro R dn ax
   exact wV (iv b.Goal) dn (eL false 1 1 (ax.blk 0 rfl)) (W_nil (oE (iv b.Goal) [] ⟨by kernel_rfl, rfl⟩ ax))
  ·intro t y
   intro R dp b4
   exact wR 1 [(39, pB d 2)] dp (W_nil (oE (pB d 2) [] ⟨by kernel_rfl, rfl⟩ b4))
  ·intro t y
   intro v12_ hb12_
   obtain ⟨rfl, _⟩ := hb12_
   intro R dq ay
   exact wV (.slice ((c 0).1) b.Gave.length ((c 0).2)) dq (eL false 1 2 (ay.blk 0 rfl)) (W_nil (oE (.slice ((c 0).1) b.Gave.length ((c 0).2)) [] ⟨by kernel_rfl, rfl⟩ ay))
  ·intro t y
   intro v13_ hb13_
   obtain ⟨rfl, _⟩ := hb13_
   intro R dr az
   exact wV (.slice (subP ((c 0).1) (1 : Int).toNat ((c 0).2) 1) U.length (((c 0).2) - (1 : Int).toNat)) dr (E_slice (E := Gx.encI) _ _ _ _ b.Gave.length 1 (b.Gave.length : Int) rfl (by kernel_rfl) (Or.inr ⟨_, rfl, by kernel_rfl⟩) (Or.inl ⟨rfl, rfl⟩) (by kernel_rfl) ((W.mem0 az).at_ N 0 ⟨Int, Gx.encI, b.Gave, (c 0).1, (c 0).2⟩ (by kernel_rfl)) rfl bd) (W_nil (oE (.slice (subP ((c 0).1) (1 : Int).toNat ((c 0).2) 1) U.length (((c 0).2) - (1 : Int).toNat)) [] ⟨by kernel_rfl, rfl⟩ az))
  intro t y
  intro v7_ hb7_
  obtain ⟨D, A, rfl, ak⟩ := hb7_
  intro v8_ hb8_
  obtain ⟨rfl, _⟩ := hb8_
  intro v9_ hb9_
  obtain ⟨rfl, _⟩ := hb9_
  intro v11_ hb11_
  obtain ⟨rfl, _⟩ := hb11_
  intro v14_ hb14_
  obtain ⟨rfl, _⟩ := hb14_
  intro bm b5
  have Z : Mem [] w bm [[(d, .cells ⟨[iv b.Guest, iv b.Goal, .slice ((c 0).1) b.Gave.length ((c 0).2)]⟩ 50 (0, 0))], (t 7)] := b5
  obtain ⟨bh, cu, hm⟩ := gx_bind hm
  refine wC 58 #[.slice m o.length n, iv q, iv b.Goal, .slice (subP ((c 0).1) (1 : Int).toNat ((c 0).2) 1) U.length (((c 0).2) - (1 : Int).toNat)] ((c_s_l18With bm o m n (ae.mem0 Z) q b.Goal U (subP ((c 0).1) (1 : Int).toNat ((c 0).2) 1) (((c 0).2) - (1 : Int).toNat) (((W.mem0 Z).at_ N 0 ⟨Int, Gx.encI, b.Gave, (c 0).1, (c 0).2⟩ (by kernel_rfl)).sliceM bd) cu).mono ?_)
  rintro e_ ds ⟨ao, ac, c5, c6, rfl, cp, bq⟩
  have b6 := Z.call bq
  refine ⟨_, rfl, ?_⟩
  refine wR 3 [(8, .slice D O.length A), (9, .slice ao bh.length ac), (10, .bool true)] ds (W_nil (N_then (G_ret (N_then_ret ?_))))
  obtain rfl := Option.some.inj hm
  exact N_ret [.slice D O.length A, .slice ao bh.length ac, .bool true] (rC (rC (rC RVs_nil))) (⟨D, A, (t 7), ao, ac, c5, c6, rfl, (fun _ => ak), (fun _ => cp), b6.pk [1, 2, 3]⟩)
 refine gF af (G_skip (N_then (G_seq (G_seq ?_))))
 obtain ⟨c2, cq, cn⟩ := gx_bind hm
 refine G_meet (fun a w' => Mem [] w w' [[(d, .cells ⟨[iv b.Guest, iv b.Goal, .slice ((c 0).1) b.Gave.length ((c 0).2)]⟩ 50 (0, 0))]] ∧ Sat Try.f68.ntmps [(0, .slice g l.length k), (1, .slice m o.length n), (2, iv q), (11, pB d 0), (55, .bool c2)] a) ?_ ?_
 ·have hm := cq
  refine G_region (wR 1 [(0, .slice g l.length k), (1, .slice m o.length n), (2, iv q), (11, pB d 0), (43, pB d 2)] x (wV (.slice ((c 0).1) b.Gave.length ((c 0).2)) x (eL false 1 2 (K.blk 0 rfl)) (wR 2 [(0, .slice g l.length k), (1, .slice m o.length n), (2, iv q), (11, pB d 0), (45, iv (b.Gave.length : Int)), (46, pB d 1)] x (wV (iv b.Goal) x (eL false 1 1 (K.blk 0 rfl)) (wR 2 [(0, .slice g l.length k), (1, .slice m o.length n), (2, iv q), (11, pB d 0), (49, .bool (decide ((b.Gave.length : Int) ≥ b.Goal)))] x ?_)))))
  rcases gx_bif hm with ⟨ah, hm⟩ | ⟨ah, hm⟩
  ·refine wK 49 true ah (wR 6 [(0, .slice g l.length k), (1, .slice m o.length n), (2, iv q), (11, pB d 0), (55, .bool true)] x (W_nil ?_))
   obtain rfl := Option.some.inj hm
   exact N_meet fun a ha => ⟨K.pk [0], ha.s⟩
  refine wK 49 false ah (wR 2 [(0, .slice g l.length k), (1, .slice m o.length n), (2, iv q), (11, pB d 0), (49, .bool false), (50, .slice g l.length k), (51, pB d 0)] x (wV (iv b.Guest) x (eL false 1 0 (K.blk 0 rfl)) ?_))
  obtain ⟨c3, cv, hm⟩ := gx_bind hm
  refine wC 65 #[.slice g l.length k, iv b.Guest] ((c_s_l18Count x l g k (V.mem0 K) b.Guest cv).mono ?_)
  rintro e_ dt ⟨rfl, br⟩
  have b7 := K.call0 br
  refine ⟨_, rfl, ?_⟩
  refine wR 2 [(0, .slice g l.length k), (1, .slice m o.length n), (2, iv q), (11, pB d 0), (55, .bool (decide (c3 < 2)))] dt (W_nil ?_)
  obtain rfl := Option.some.inj hm
  exact N_meet fun a ha => ⟨b7.pk [0], ha.s⟩
 intro d8 bn ⟨a0, ck⟩
 refine N_use ck ?_
 have hm := cn
 refine N_then ?_
 rcases gx_bif hm with ⟨ai, hm⟩ | ⟨ai, hm⟩
 ·refine gT ai (G_seq (G_region (wR 5 [(8, .slice g l.length k), (9, .slice m o.length n), (10, .bool false)] bn (W_nil (N_then (G_ret (N_then_ret ?_)))))))
  obtain rfl := Option.some.inj hm
  exact N_ret [.slice g l.length k, .slice m o.length n, .bool false] (rC (rC (rC RVs_nil))) (⟨g, k, [], m, n, [], [], rfl, (fun h_ => by cases h_), (fun h_ => by cases h_), a0.pk [100000, 100001, 100002]⟩)
 refine gF ai (G_skip (N_then (G_seq (G_region (wR 4 [(0, .slice g l.length k), (1, .slice m o.length n), (2, iv q), (11, pB d 0), (12, iv (w64 ((l.length : Int) - 1)))] bn (W_nil (N_then (G_seq ?_))))))))
 obtain ⟨z, c0, co⟩ := gx_bind hm
 refine G_meet (fun a w' => Mem [] w w' [[(d, .cells ⟨[iv b.Guest, iv b.Goal, .slice ((c 0).1) b.Gave.length ((c 0).2)]⟩ 50 (0, 0))]] ∧ Sat Try.f68.ntmps [(0, .slice g l.length k), (1, .slice m o.length n), (2, iv q), (11, pB d 0), (12, iv z)] a) ?_ ?_
 ·refine G_block (G_while (σ := Int) (ρ := Int) (fun L a w' => Mem [] w w' [[(d, .cells ⟨[iv b.Guest, iv b.Goal, .slice ((c 0).1) b.Gave.length ((c 0).2)]⟩ 50 (0, 0))]] ∧ Sat Try.f68.ntmps [(0, .slice g l.length k), (1, .slice m o.length n), (2, iv q), (11, pB d 0), (12, iv L)] a) c0 (fun a ha => ⟨a0.pk [0], ha.s⟩) ?_)
  clear hm
  intro L ei hm cs d9 ed ⟨b8, cl⟩
  refine G_use cl (G_seq (G_seq (G_quiet (by kernel_rfl) (by kernel_rfl) b8 (zR [.slice g l.length k, iv L] [(0, .slice g l.length k), (1, .slice m o.length n), (2, iv q), (11, pB d 0), (12, iv L), (61, .slice g l.length k), (62, iv L)] ?_))))
  obtain ⟨Y, bc, hm⟩ := gx_bind hm
  refine zV (elemP g (L.toNat * 1)) (fun w_ M_ => (eI (V.mem0 M_) rfl bc)) (zV (iv Y) (fun w_ M_ => (eE false 1 0 (L.toNat * 1) (V.mem0 M_) bc)) (zR [pB d 0] [(0, .slice g l.length k), (1, .slice m o.length n), (2, iv q), (11, pB d 0), (12, iv L), (64, iv Y), (65, pB d 0)] (zV (iv b.Guest) (fun w_ M_ => (eL false 1 0 (M_.blk 0 rfl))) (zR [.bool (Y != b.Guest)] [(0, .slice g l.length k), (1, .slice m o.length n), (2, iv q), (11, pB d 0), (12, iv L), (67, .bool (Y != b.Guest))] (Z_end fun du a3 => (N_then ?_))))))
  rcases gx_bif hm with ⟨aj, hm⟩ | ⟨aj, hm⟩
  ·refine gT aj (G_skip (N_then (G_block (G_region (wR 3 [(0, .slice g l.length k), (1, .slice m o.length n), (2, iv q), (11, pB d 0), (12, iv (w64 (L - 1)))] du (W_nil (N_block ?_)))))))
   obtain rfl := Option.some.inj hm
   exact N_loop fun a ha => ⟨_, rfl, a3.pk [0], ha.s⟩
  refine gF aj (G_exit (N_then_exit (N_then_exit (N_block_eq ?_))))
  obtain rfl := Option.some.inj hm
  obtain rfl := cs _ rfl
  exact N_meet fun a ha => ⟨a3.pk [0], ha.s⟩
 intro ea ee ⟨b9, cm⟩
 refine N_use cm ?_
 have hm := co
 refine N_then (G_seq ?_)
 obtain ⟨P, cw, hm⟩ := gx_bind hm
 obtain ⟨Q, cx, hm⟩ := gx_bind hm
 obtain ⟨S, cy, hm⟩ := gx_bind hm
 refine G_sub [(0, .slice g l.length k), (1, .slice m o.length n), (2, iv q), (11, pB d 0), (12, iv z)] (by kernel_rfl) (G_dagL 12 [[], [], [0, 1], [], [], [], [5], [], [7], [8], [], [9, 10]] [[], [], [], [], [], [], [], [], [], [], [], [9]] [[], [], [], [], [], [], [], [], [], [], [], []] [[], [], [], [], [], [], [], [], [], [], [], []] [[], [], [], [], [], [], [], [], [], [], [], []] [[], [], [], [], [], [], [], [], [], [], [], []] (fun _ => []) (fun i => ([fun f v s => v = (.slice g l.length k : Value) ∧ s = [], fun f v s => v = (iv z : Value) ∧ s = [], fun f v s => ∃ (F : Option Addr) (B : Nat), v = (.slice F P.length B : Value) ∧ ownS Gx.encI P F B s, fun f v s => v = (.slice m o.length n : Value) ∧ s = [], fun f v s => v = (iv q : Value) ∧ s = [], fun f v s => v = (pB d 1 : Value) ∧ s = [], fun f v s => v = (iv b.Goal : Value) ∧ s = [], fun f v s => v = (pB d 2 : Value) ∧ s = [], fun f v s => v = (.slice ((c 0).1) b.Gave.length ((c 0).2) : Value) ∧ s = [], fun f v s => ∃ (I : Option Addr) (G : Nat), v = (.slice I Q.length G : Value) ∧ ownS Gx.encI Q I G s, fun f v s => v = (iv z : Value) ∧ s = [], fun f v s => ∃ (J : Option Addr) (H : Nat), v = (.slice J S.length H : Value) ∧ ownS Gx.encI S J H s] : List ((Nat → Value) → Value → Seg → Prop)).getD i (fun _ _ _ => False)) (fun j f v => ∃ s, (fun i => ([fun f v s => v = (.slice g l.length k : Value) ∧ s = [], fun f v s => v = (iv z : Value) ∧ s = [], fun f v s => ∃ (F : Option Addr) (B : Nat), v = (.slice F P.length B : Value) ∧ ownS Gx.encI P F B s, fun f v s => v = (.slice m o.length n : Value) ∧ s = [], fun f v s => v = (iv q : Value) ∧ s = [], fun f v s => v = (pB d 1 : Value) ∧ s = [], fun f v s => v = (iv b.Goal : Value) ∧ s = [], fun f v s => v = (pB d 2 : Value) ∧ s = [], fun f v s => v = (.slice ((c 0).1) b.Gave.length ((c 0).2) : Value) ∧ s = [], fun f v s => ∃ (I : Option Addr) (G : Nat), v = (.slice I Q.length G : Value) ∧ ownS Gx.encI Q I G s, fun f v s => v = (iv z : Value) ∧ s = [], fun f v s => ∃ (J : Option Addr) (H : Nat), v = (.slice J S.length H : Value) ∧ ownS Gx.encI S J H s] : List ((Nat → Value) → Value → Seg → Prop)).getD i (fun _ _ _ => False)) j f v s) [] [2, 3, 4, 6, 11] [2, 11] (fun _ _ _ s h => ⟨s, h⟩) (by kernel_rfl) (by kernel_rfl) (b9.preNil 12) (by kernel_rfl) (by kernel_rfl) (by kernel_rfl) (by kernel_rfl) (allOb_cons ?_ (allOb_cons ?_ (allOb_cons ?_ (allOb_cons ?_ (allOb_cons ?_ (allOb_cons ?_ (allOb_cons ?_ (allOb_cons ?_ (allOb_cons ?_ (allOb_cons ?_ (allOb_cons ?_ (allOb_cons ?_ allOb_nil)))))))))))) ?_)
 ·intro u C
  intro R dv ca
  exact wR 1 [(70, .slice g l.length k)] dv (W_nil (oE (.slice g l.length k) [] ⟨by kernel_rfl, rfl⟩ ca))
 ·intro u C
  intro R dw cb
  exact wR 1 [(71, iv z)] dw (W_nil (oE (iv z) [] ⟨by kernel_rfl, rfl⟩ cb))
 ·intro u C
  intro v0_ hb0_
  obtain ⟨rfl, _⟩ := hb0_
  intro v1_ hb1_
  obtain ⟨rfl, _⟩ := hb1_
  intro R dx a4
  refine wC 61 #[.slice g l.length k, iv z, iv 0] ((c_s_l18Owner dx l g k (V.mem0 a4) z 0 cw).mono ?_)
  rintro e_ ef ⟨F, B, c7, rfl, al, bs⟩
  refine ⟨_, rfl, ?_⟩
  exact W_nil (oE (.slice F P.length B) c7 ⟨F, B, rfl, al⟩ (Mem.callMid a4 bs))
 ·intro u C
  intro R dy cc
  exact wR 1 [(73, .slice m o.length n)] dy (W_nil (oE (.slice m o.length n) [] ⟨by kernel_rfl, rfl⟩ cc))
 ·intro u C
  intro R dz cd
  exact wR 1 [(74, iv q)] dz (W_nil (oE (iv q) [] ⟨by kernel_rfl, rfl⟩ cd))
 ·intro u C
  intro R d0 ce
  exact wR 1 [(75, pB d 1)] d0 (W_nil (oE (pB d 1) [] ⟨by kernel_rfl, rfl⟩ ce))
 ·intro u C
  intro v5_ hb5_
  obtain ⟨rfl, _⟩ := hb5_
  intro R d1 a5
  exact wV (iv b.Goal) d1 (eL false 1 1 (a5.blk 0 rfl)) (W_nil (oE (iv b.Goal) [] ⟨by kernel_rfl, rfl⟩ a5))
 ·intro u C
  intro R d2 cf
  exact wR 1 [(77, pB d 2)] d2 (W_nil (oE (pB d 2) [] ⟨by kernel_rfl, rfl⟩ cf))
 ·intro u C
  intro v7_ hb7_
  obtain ⟨rfl, _⟩ := hb7_
  intro R d3 a6
  exact wV (.slice ((c 0).1) b.Gave.length ((c 0).2)) d3 (eL false 1 2 (a6.blk 0 rfl)) (W_nil (oE (.slice ((c 0).1) b.Gave.length ((c 0).2)) [] ⟨by kernel_rfl, rfl⟩ a6))
 ·intro u C
  intro v8_ hb8_
  obtain ⟨rfl, _⟩ := hb8_
  intro R d4 a7
  refine wC 71 #[.slice ((c 0).1) b.Gave.length ((c 0).2)] ((c_s_l1Own d4 b.Gave ((c 0).1) ((c 0).2) ((W.mem0 a7).at_ N 0 ⟨Int, Gx.encI, b.Gave, (c 0).1, (c 0).2⟩ (by kernel_rfl)) cx).mono ?_)
  rintro e_ eg ⟨I, G, c8, rfl, am, bt⟩
  refine ⟨_, rfl, ?_⟩
  exact W_nil (oE (.slice I Q.length G) c8 ⟨I, G, rfl, am⟩ (Mem.callMid a7 bt))
 ·intro u C
  intro R d5 cg
  exact wR 1 [(80, iv z)] d5 (W_nil (oE (iv z) [] ⟨by kernel_rfl, rfl⟩ cg))
 ·intro u C
  intro v9_ hb9_
  obtain ⟨I, G, rfl, am⟩ := hb9_
  intro v10_ hb10_
  obtain ⟨rfl, _⟩ := hb10_
  intro R d6 ch
  have aa := Mem.takeOver ch
  refine wC 87 #[.slice I Q.length G, iv z] ((c_s_l1Put d6 Q I G (u 9) am z (aa.hasPick [1]) (aa.nodupPick [1] (by kernel_rfl)) cy).mono ?_)
  rintro e_ eh ⟨J, H, c9, rfl, an, bu⟩
  refine ⟨_, rfl, ?_⟩
  exact W_nil (oE (.slice J S.length H) c9 ⟨J, H, rfl, an⟩ (Mem.callMidF aa bu))
 intro u C
 intro v2_ hb2_
 obtain ⟨F, B, rfl, al⟩ := hb2_
 intro v3_ hb3_
 obtain ⟨rfl, _⟩ := hb3_
 intro v4_ hb4_
 obtain ⟨rfl, _⟩ := hb4_
 intro v6_ hb6_
 obtain ⟨rfl, _⟩ := hb6_
 intro v11_ hb11_
 obtain ⟨J, H, rfl, an⟩ := hb11_
 intro bo ci
 have ab : Mem [] w bo [[(d, .cells ⟨[iv b.Guest, iv b.Goal, .slice ((c 0).1) b.Gave.length ((c 0).2)]⟩ 50 (0, 0))], (u 2), (u 11)] := ci
 obtain ⟨bi, cz, hm⟩ := gx_bind hm
 refine wC 58 #[.slice m o.length n, iv q, iv b.Goal, .slice J S.length H] ((c_s_l18With bo o m n (ae.mem0 ab) q b.Goal S J H (an.rd ab 2 (by kernel_rfl)) cz).mono ?_)
 rintro e_ d7 ⟨ap, ad, da, db, rfl, cr, bv⟩
 have cj := ab.call bv
 refine ⟨_, rfl, ?_⟩
 refine wR 3 [(8, .slice F P.length B), (9, .slice ap bi.length ad), (10, .bool true)] d7 (W_nil (N_then (G_ret ?_)))
 obtain rfl := Option.some.inj hm
 exact N_ret [.slice F P.length B, .slice ap bi.length ad, .bool true] (rC (rC (rC RVs_nil))) (⟨F, B, (u 2), ap, ad, da, db, rfl, (fun _ => al), (fun _ => cr), cj.pk [1, 3, 4]⟩)
theorem c_s_Deflate (w : World) (f : List Int) (h : Option Addr) (g : Nat) (O : rdS Gx.encI w f h g) (b : List Balloon) (d : Option Addr) (c : Nat) (y : rdD deepBalloon w b d c) (k : Int) {r : (List Int) × (List Balloon) × Bool} (hm : M.s_Deflate f b k = some r) :
  Calls Try.prog 32 #[.slice h f.length g, .slice d b.length c, iv k] w fun e w' => ∃ (R : Option Addr) (L : Nat) (T : Seg), ∃ (S : Option Addr) (N : Nat) (U : Seg) (V : Seg), e = .returned (.tuple #[.slice R r.1.length L, .slice S r.2.1.length N, .bool r.2.2]) ∧ ownS Gx.encI r.1 R L T ∧ ownD deepBalloon r.2.1 S N U V ∧ Mem [] w w' [T, U, V] := by
 unfold M.s_Deflate at hm
 refine cE Try.func32 ?_
 have M0 := Mem.refl [] w
 refine G_seq (G_region (wR 3 [(0, .slice h f.length g), (1, .slice d b.length c), (2, iv k)] w (W_nil (N_then (G_seq (G_region (wR 2 [(0, .slice h f.length g), (1, .slice d b.length c), (13, .slice d b.length c), (14, iv k)] w ?_)))))))
 obtain ⟨i, ap, hm⟩ := gx_bind hm
 refine wC 56 #[.slice d b.length c, iv k] ((c_s_l18Find w b d c (y.mem0 M0) k ap).mono ?_)
 rintro e_ G ⟨rfl, Y⟩
 have u := M0.call0 Y
 refine ⟨_, rfl, ?_⟩
 refine wR 1 [(0, .slice h f.length g), (1, .slice d b.length c), (9, iv i)] G (W_nil (N_then (G_seq (G_seq ?_))))
 obtain ⟨au, aj, ai⟩ := gx_bind hm
 refine G_meet (fun a w' => Mem [] w w' [] ∧ Sat Try.f32.ntmps [(0, .slice h f.length g), (1, .slice d b.length c), (9, iv i), (22, .bool au)] a) ?_ ?_
 ·have hm := aj
  refine G_region (wR 2 [(0, .slice h f.length g), (1, .slice d b.length c), (9, iv i), (16, .slice h f.length g), (17, .slice d b.length c)] G ?_)
  obtain ⟨aw, aq, hm⟩ := gx_bind hm
  refine wC 47 #[.slice h f.length g, .slice d b.length c] ((c_s_l18Good G f h g (O.mem0 u) b d c (y.mem0 u) aq).mono ?_)
  rintro e_ H ⟨rfl, Z⟩
  have J := u.call0 Z
  refine ⟨_, rfl, ?_⟩
  refine wR 1 [(0, .slice h f.length g), (1, .slice d b.length c), (9, iv i), (19, .bool aw)] H ?_
  rcases gx_bif hm with ⟨z, hm⟩ | ⟨z, hm⟩
  ·refine wK 19 true z (wR 3 [(0, .slice h f.length g), (1, .slice d b.length c), (9, iv i), (22, .bool (decide (i ≥ 0)))] H (W_nil ?_))
   obtain rfl := Option.some.inj hm
   exact N_meet fun a ha => ⟨J.pk [], ha.s⟩
  refine wK 19 false z (wR 3 [(0, .slice h f.length g), (1, .slice d b.length c), (9, iv i), (22, .bool false)] H (W_nil ?_))
  obtain rfl := Option.some.inj hm
  exact N_meet fun a ha => ⟨J.pk [], ha.s⟩
 intro a4 W ⟨t, ag⟩
 refine N_use ag ?_
 have hm := ai
 refine N_then ?_
 obtain ⟨av, ak, P⟩ := gx_bind hm
 refine G_meet (fun a w' => ∃ (Q : Unit), av = .inl Q ∧ Mem [] w w' [] ∧ Sat Try.f32.ntmps [] a) ?_ ?_
 ·have hm := ak
  rcases gx_bif hm with ⟨A, hm⟩ | ⟨A, hm⟩
  ·refine gT A (G_seq (G_region (wR 3 [(24, .slice h f.length g), (25, .slice d b.length c), (26, iv i)] W ?_)))
   obtain ⟨j, ar, hm⟩ := gx_bind hm
   refine wC 68 #[.slice h f.length g, .slice d b.length c, iv i, iv (-1)] ((c_s_l18Step W f h g (O.mem0 t) b d c (y.mem0 t) i (-1) ar).mono ?_)
   rintro e_ I ⟨o, l, ax, q, m, ay, az, rfl, al, am, aa⟩
   have K := t.call aa
   refine ⟨_, rfl, ?_⟩
   refine wR 7 [(10, .slice o j.1.length l), (11, .slice q j.2.1.length m), (12, .bool j.2.2)] I (W_nil (N_then (G_seq (G_region (wR 1 [(10, .slice o j.1.length l), (11, .slice q j.2.1.length m), (31, .bool j.2.2)] I (W_nil (N_then ?_)))))))
   rcases gx_bif hm with ⟨n, hm⟩ | ⟨n, hm⟩
   ·refine gT n (G_seq (G_region (wR 5 [(6, .slice o j.1.length l), (7, .slice q j.2.1.length m), (8, .bool true)] I (W_nil (N_then (G_ret (N_meet_ret ?_)))))))
    obtain rfl := Option.some.inj hm
    have hm := P
    simp only [Sum.elim_inr] at hm
    refine N_then_ret ?_
    obtain rfl := Option.some.inj hm
    exact N_ret [.slice o j.1.length l, .slice q j.2.1.length m, .bool true] (rC (rC (rC RVs_nil))) (⟨o, l, ax, q, m, ay, az, rfl, (al n), (am n), K.pk [0, 1, 2]⟩)
   refine gF n (G_skip ?_)
   obtain rfl := Option.some.inj hm
   exact N_meet fun a ha => ⟨_, rfl, K.pk [], ha.s⟩
  refine gF A (G_skip ?_)
  obtain rfl := Option.some.inj hm
  exact N_meet fun a ha => ⟨_, rfl, t.pk [], ha.s⟩
 intro a5 a6 ⟨Q, hout_, ab, ah⟩
 refine N_use ah ?_
 subst hout_
 have hm := P
 simp only [Sum.elim_inl] at hm
 refine N_then (G_seq (G_region (wL (E := Gx.encI) ([] : List Int) 0 [] 3 ab ?_)))
 intro B v F X an ac
 have ad : Mem [] w X [F] := ac.pk [0]
 have ae : Mem [] w X [F, []] := ad.regroup (by simp)
 refine W_litD (D := deepBalloon) [] ([] : List Balloon) rfl 0 [] 50 ae (by kernel_rfl) (by kernel_rfl) (by kernel_rfl) (by kernel_rfl) (by kernel_rfl) ownI_nil ?_
 intro C x a0 a3 ao af
 refine wR 3 [(6, .slice B ([] : List Int).length v), (7, .slice C ([] : List Balloon).length x), (8, .bool false)] a3 (W_nil (N_then (G_ret ?_)))
 obtain rfl := Option.some.inj hm
 exact N_ret [.slice B ([] : List Int).length v, .slice C ([] : List Balloon).length x, .bool false] (rC (rC (rC RVs_nil))) (⟨B, v, F, C, x, a0, [], rfl, an, ao, af.pk [0, 2, 1]⟩)
theorem c_i_deflate__e1 (w : World) (k : List Int) (m : Option Addr) (n : Nat) (x : Seg) (N : ownS Gx.encI k m n x) (J : List Balloon) (b : Option Addr) (K : Nat) (y : Seg) (z : Seg) (ac : ownD deepBalloon J b K y z) (a : Int) (hA : ∀ q ∈ List.flatten [x, y, z], w.heap[q.1]? = some q.2) (hN : (idsOf [x, y, z]).Nodup) {r : Bool × (List Int) × (List Balloon)} (hm : M.i_deflate__e1 k J a = some r) :
  Calls Try.prog 69 #[.slice m k.length n, elemP b (a.toNat * 3)] w fun e w' => ∃ (ag : Seg), ∃ (ah : Seg) (ai : Seg), e = .returned (.bool r.1) ∧ ownS Gx.encI r.2.1 m n ag ∧ r.2.1.length = k.length ∧ ownD deepBalloon r.2.2 b K ah ai ∧ r.2.2.length = J.length ∧ Mem (idsOf [x, y, z]) w w' [ag, ah, ai] := by
 unfold M.i_deflate__e1 at hm
 refine cE Try.func69 ?_
 have M0 := Mem.start' w [x, y, z] hA hN
 obtain ⟨c, a5, hm⟩ := gx_bind hm
 obtain ⟨bn, O, l, H⟩ := id ac
 obtain ⟨d, g⟩ := gxIdx_fst O a5
 refine G_seq (G_region (wR 1 [(0, .slice m k.length n), (1, elemP b (a.toNat * 3))] w (W_nil (N_then (G_seq (G_seq (G_quiet (by kernel_rfl) (by kernel_rfl) M0 (zR [elemP b (a.toNat * 3)] [(0, .slice m k.length n), (1, elemP b (a.toNat * 3)), (5, elemP b (a.toNat * 3))] (zV (elemP b (a.toNat * 3)) (fun w_ M_ => (E_nilE (E := deepBalloon.E) _ (a.toNat * 3) rfl (by kernel_rfl) (l.rd M_ 1 (by kernel_rfl)) g)) (zV (elemP b (a.toNat * 3 + 2)) (fun w_ M_ => (eF 2 (a.toNat * 3) 2 (l.rd M_ 1 (by kernel_rfl)) g)) (zV (.slice ((d 0).1) c.Gave.length ((d 0).2)) (fun w_ M_ => (eE false 1 2 (a.toNat * 3 + 2) (l.rd M_ 1 (by kernel_rfl)) g)) (zR [iv (c.Gave.length : Int), elemP b (a.toNat * 3)] [(0, .slice m k.length n), (1, elemP b (a.toNat * 3)), (9, iv (c.Gave.length : Int)), (10, elemP b (a.toNat * 3))] (zV (elemP b (a.toNat * 3)) (fun w_ M_ => (E_nilE (E := deepBalloon.E) _ (a.toNat * 3) rfl (by kernel_rfl) (l.rd M_ 1 (by kernel_rfl)) g)) (zV (elemP b (a.toNat * 3 + 1)) (fun w_ M_ => (eF 1 (a.toNat * 3) 1 (l.rd M_ 1 (by kernel_rfl)) g)) (zV (iv c.Goal) (fun w_ M_ => (eE false 1 1 (a.toNat * 3 + 1) (l.rd M_ 1 (by kernel_rfl)) g)) ?_)))))))))))))))
 refine zR [.bool (decide ((c.Gave.length : Int) ≤ c.Goal))] [(0, .slice m k.length n), (1, elemP b (a.toNat * 3)), (14, .bool (decide ((c.Gave.length : Int) ≤ c.Goal)))] (Z_end fun a8 S => (N_then ?_))
 rcases gx_bif hm with ⟨L, hm⟩ | ⟨L, hm⟩
 ·refine gT L (G_seq (G_region (wR 1 [(4, .bool false)] a8 (W_nil (N_then (G_ret (N_then_ret ?_)))))))
  obtain rfl := Option.some.inj hm
  exact N_ret [.bool false] (rC RVs_nil) (⟨x, y, z, rfl, N, rfl, ac, rfl, S.pk [0, 1, 2]⟩)
 refine gF L (G_skip (N_then (G_seq ?_)))
 obtain ⟨u, ad, hm⟩ := gx_bind hm
 refine G_sub [(0, .slice m k.length n), (1, elemP b (a.toNat * 3)), (14, .bool (decide ((c.Gave.length : Int) ≤ c.Goal)))] (by kernel_rfl) (G_dagL 11 [[], [], [1], [2], [3], [4], [5], [], [7], [8], [9]] [[], [], [], [], [], [], [], [], [], [], []] [[], [], [], [], [], [], [], [], [], [], []] [[], [], [], [], [], [], [], [], [], [], []] [[], [], [], [], [], [], [], [], [], [], []] [[], [], [], [], [], [], [], [], [], [], []] (fun _ => []) (fun i => ([fun f v s => v = (.slice m k.length n : Value) ∧ s = [], fun f v s => v = (elemP b (a.toNat * 3) : Value) ∧ s = [], fun f v s => v = (elemP b (a.toNat * 3) : Value) ∧ s = [], fun f v s => v = (elemP b (a.toNat * 3 + 2) : Value) ∧ s = [], fun f v s => v = (.slice ((d 0).1) c.Gave.length ((d 0).2) : Value) ∧ s = [], fun f v s => v = (elemP ((d 0).1) ((0 : Int).toNat * 1) : Value) ∧ s = [], fun f v s => v = (iv u : Value) ∧ s = [], fun f v s => v = (elemP b (a.toNat * 3) : Value) ∧ s = [], fun f v s => v = (elemP b (a.toNat * 3) : Value) ∧ s = [], fun f v s => v = (elemP b (a.toNat * 3 + 0) : Value) ∧ s = [], fun f v s => v = (iv c.Guest : Value) ∧ s = []] : List ((Nat → Value) → Value → Seg → Prop)).getD i (fun _ _ _ => False)) (fun j f v => ∃ s, (fun i => ([fun f v s => v = (.slice m k.length n : Value) ∧ s = [], fun f v s => v = (elemP b (a.toNat * 3) : Value) ∧ s = [], fun f v s => v = (elemP b (a.toNat * 3) : Value) ∧ s = [], fun f v s => v = (elemP b (a.toNat * 3 + 2) : Value) ∧ s = [], fun f v s => v = (.slice ((d 0).1) c.Gave.length ((d 0).2) : Value) ∧ s = [], fun f v s => v = (elemP ((d 0).1) ((0 : Int).toNat * 1) : Value) ∧ s = [], fun f v s => v = (iv u : Value) ∧ s = [], fun f v s => v = (elemP b (a.toNat * 3) : Value) ∧ s = [], fun f v s => v = (elemP b (a.toNat * 3) : Value) ∧ s = [], fun f v s => v = (elemP b (a.toNat * 3 + 0) : Value) ∧ s = [], fun f v s => v = (iv c.Guest : Value) ∧ s = []] : List ((Nat → Value) → Value → Seg → Prop)).getD i (fun _ _ _ => False)) j f v s) [] [0, 6, 10] [] (fun _ _ _ s h => ⟨s, h⟩) (by kernel_rfl) (by kernel_rfl) (S.preNil 11) (by kernel_rfl) (by kernel_rfl) (by kernel_rfl) (by kernel_rfl) (allOb_cons ?_ (allOb_cons ?_ (allOb_cons ?_ (allOb_cons ?_ (allOb_cons ?_ (allOb_cons ?_ (allOb_cons ?_ (allOb_cons ?_ (allOb_cons ?_ (allOb_cons ?_ (allOb_cons ?_ allOb_nil))))))))))) ?_)
 ·intro t o
  intro R a9 ak
  exact wR 1 [(15, .slice m k.length n)] a9 (W_nil (oE (.slice m k.length n) [] ⟨by kernel_rfl, rfl⟩ ak))
 ·intro t o
  intro R ba al
  exact wR 1 [(16, elemP b (a.toNat * 3))] ba (W_nil (oE (elemP b (a.toNat * 3)) [] ⟨by kernel_rfl, rfl⟩ al))
 ·intro t o
  intro v1_ hb1_
  obtain ⟨rfl, _⟩ := hb1_
  intro R bb T
  exact wV (elemP b (a.toNat * 3)) bb (E_nilE (E := deepBalloon.E) _ (a.toNat * 3) rfl (by kernel_rfl) (l.rd T 1 (by kernel_rfl)) g) (W_nil (oE (elemP b (a.toNat * 3)) [] ⟨by kernel_rfl, rfl⟩ T))
 ·intro t o
  intro v2_ hb2_
  obtain ⟨rfl, _⟩ := hb2_
  intro R bc U
  exact wV (elemP b (a.toNat * 3 + 2)) bc (eF 2 (a.toNat * 3) 2 (l.rd U 1 (by kernel_rfl)) g) (W_nil (oE (elemP b (a.toNat * 3 + 2)) [] ⟨by kernel_rfl, rfl⟩ U))
 ·intro t o
  intro v3_ hb3_
  obtain ⟨rfl, _⟩ := hb3_
  intro R bd V
  exact wV (.slice ((d 0).1) c.Gave.length ((d 0).2)) bd (eE false 1 2 (a.toNat * 3 + 2) (l.rd V 1 (by kernel_rfl)) g) (W_nil (oE (.slice ((d 0).1) c.Gave.length ((d 0).2)) [] ⟨by kernel_rfl, rfl⟩ V))
 ·intro t o
  intro v4_ hb4_
  obtain ⟨rfl, _⟩ := hb4_
  intro R be W
  exact wV (elemP ((d 0).1) ((0 : Int).toNat * 1)) be (eI ((H.rd W 2 (by kernel_rfl)).at_ g 0 ⟨Int, Gx.encI, c.Gave, (d 0).1, (d 0).2⟩ (by kernel_rfl)) rfl ad) (W_nil (oE (elemP ((d 0).1) ((0 : Int).toNat * 1)) [] ⟨by kernel_rfl, rfl⟩ W))
 ·intro t o
  intro v5_ hb5_
  obtain ⟨rfl, _⟩ := hb5_
  intro R bf X
  exact wV (iv u) bf (eE false 1 0 ((0 : Int).toNat * 1) ((H.rd X 2 (by kernel_rfl)).at_ g 0 ⟨Int, Gx.encI, c.Gave, (d 0).1, (d 0).2⟩ (by kernel_rfl)) ad) (W_nil (oE (iv u) [] ⟨by kernel_rfl, rfl⟩ X))
 ·intro t o
  intro R bg am
  exact wR 1 [(22, elemP b (a.toNat * 3))] bg (W_nil (oE (elemP b (a.toNat * 3)) [] ⟨by kernel_rfl, rfl⟩ am))
 ·intro t o
  intro v7_ hb7_
  obtain ⟨rfl, _⟩ := hb7_
  intro R bh Y
  exact wV (elemP b (a.toNat * 3)) bh (E_nilE (E := deepBalloon.E) _ (a.toNat * 3) rfl (by kernel_rfl) (l.rd Y 1 (by kernel_rfl)) g) (W_nil (oE (elemP b (a.toNat * 3)) [] ⟨by kernel_rfl, rfl⟩ Y))
 ·intro t o
  intro v8_ hb8_
  obtain ⟨rfl, _⟩ := hb8_
  intro R bi Z
  exact wV (elemP b (a.toNat * 3 + 0)) bi (eF 0 (a.toNat * 3) 0 (l.rd Z 1 (by kernel_rfl)) g) (W_nil (oE (elemP b (a.toNat * 3 + 0)) [] ⟨by kernel_rfl, rfl⟩ Z))
 ·intro t o
  intro v9_ hb9_
  obtain ⟨rfl, _⟩ := hb9_
  intro R bj aa
  exact wV (iv c.Guest) bj (eE false 1 0 (a.toNat * 3 + 0) (l.rd aa 1 (by kernel_rfl)) g) (W_nil (oE (iv c.Guest) [] ⟨by kernel_rfl, rfl⟩ aa))
 intro t o
 intro v0_ hb0_
 obtain ⟨rfl, _⟩ := hb0_
 intro v6_ hb6_
 obtain ⟨rfl, _⟩ := hb6_
 intro v10_ hb10_
 obtain ⟨rfl, _⟩ := hb10_
 intro aj an
 have ab : Mem (idsOf [x, y, z]) w aj [x, y, z] := an
 obtain ⟨bk, ae, hm⟩ := gx_bind hm
 refine wV (elemP m (u.toNat * 1)) aj (eI (N.rd ab 0 (by kernel_rfl)) rfl ae) (wE false 1 u.toNat 0 (u.toNat * 1) bk c.Guest (iv c.Guest) 0 ab N (gxIdx_spec ae).2 ?_)
 intro B P aw A
 refine wX 0 (.slice m k.length n) (.slice m (k.set u.toNat c.Guest).length n) (by rw [@List.length_set _ k u.toNat c.Guest]) (wX 15 (.slice m k.length n) (.slice m (k.set u.toNat c.Guest).length n) (by rw [@List.length_set _ k u.toNat c.Guest]) (W_nil (N_then (G_seq (G_region (wR 2 [(27, elemP b (a.toNat * 3)), (28, elemP b (a.toNat * 3))] B (wV (elemP b (a.toNat * 3)) B (E_nilE (E := deepBalloon.E) _ (a.toNat * 3) rfl (by kernel_rfl) (l.rd A 1 (by kernel_rfl)) g) (wV (elemP b (a.toNat * 3 + 2)) B (eF 2 (a.toNat * 3) 2 (l.rd A 1 (by kernel_rfl)) g) (wV (.slice ((d 0).1) c.Gave.length ((d 0).2)) B (eE false 1 2 (a.toNat * 3 + 2) (l.rd A 1 (by kernel_rfl)) g) ?_)))))))))
 obtain ⟨C, af, hm⟩ := gx_bind hm
 refine wV (.slice (subP ((d 0).1) (1 : Int).toNat ((d 0).2) 1) C.length (((d 0).2) - (1 : Int).toNat)) B (E_slice (E := Gx.encI) _ _ _ _ c.Gave.length 1 (c.Gave.length : Int) rfl (by kernel_rfl) (Or.inr ⟨_, rfl, by kernel_rfl⟩) (Or.inl ⟨rfl, rfl⟩) (by kernel_rfl) ((H.rd A 2 (by kernel_rfl)).at_ g 0 ⟨Int, Gx.encI, c.Gave, (d 0).1, (d 0).2⟩ (by kernel_rfl)) rfl af) (wV (elemP b (a.toNat * 3)) B (E_nilE (E := deepBalloon.E) _ (a.toNat * 3) rfl (by kernel_rfl) (l.rd A 1 (by kernel_rfl)) g) (wV (elemP b (a.toNat * 3 + 2)) B (eF 2 (a.toNat * 3) 2 (l.rd A 1 (by kernel_rfl)) g) ?_))
 obtain ⟨D, a7, F, a3, av, a0⟩ := H.lens (gxIdx_spec g).2
 have ao := A.cut 2 (sa := D) (sb := a7) (sc := F) a3 (by kernel_rfl)
 obtain ⟨G, a6, a4, ax, bm⟩ := av
 have ap := ao.cut 3 (sa := []) (sb := G) (sc := a6) a4 (by kernel_rfl)
 refine wE false 1 a.toNat 2 (a.toNat * 3 + 2) (c, d) ((⟨c.Guest, c.Goal, C⟩ : Balloon), (plOf [((subP ((d 0).1) (1 : Int).toNat ((d 0).2) 1), (((d 0).2) - (1 : Int).toNat))])) (.slice (subP ((d 0).1) (1 : Int).toNat ((d 0).2) 1) C.length (((d 0).2) - (1 : Int).toNat)) 1 ap l (gxIdx_spec g).2 ?_
 intro Q I ay aq
 have ar : Mem (idsOf [x, y, z]) w Q [P, I, [], D, G, F] := aq.pk [0, 1, 3, 2, 5, 4]
 have au : Mem (idsOf [x, y, z]) w Q [P, I, [], (D ++ ((G ++ []) ++ F))] := ar.regroup (by simp)
 have az : ownD deepBalloon (J.set a.toNat (⟨c.Guest, c.Goal, C⟩ : Balloon)) b K I (D ++ ((G ++ []) ++ F)) := ⟨_, set_fst O a.toNat ((⟨c.Guest, c.Goal, C⟩ : Balloon), (plOf [((subP ((d 0).1) (1 : Int).toNat ((d 0).2) 1), (((d 0).2) - (1 : Int).toNat))])), ay, a0 ((⟨c.Guest, c.Goal, C⟩ : Balloon), (plOf [((subP ((d 0).1) (1 : Int).toNat ((d 0).2) 1), (((d 0).2) - (1 : Int).toNat))])) _ (ownI_cons (i := ⟨Int, Gx.encI, _, _, _⟩) (ax.partM af) ownI_nil)⟩
 have bl := gxIdx_put (⟨c.Guest, c.Goal, C⟩ : Balloon) (gxIdx_down O g)
 refine W_nil (N_then (G_seq (G_region (wR 1 [(4, .bool true)] Q (W_nil (N_then (G_ret ?_)))))))
 obtain rfl := Option.some.inj hm
 exact N_ret [.bool true] (rC RVs_nil) (⟨P, I, (D ++ ((G ++ []) ++ F)), rfl, aw, (List.length_set.trans rfl), az, (List.length_set.trans rfl), au.pk [0, 1, 3]⟩)
theorem c_i_Deflate (w : World) (h : List Int) (k : Option Addr) (i : Nat) (H : rdS Gx.encI w h k i) (d : List Balloon) (g : Option Addr) (f : Nat) (I : rdD deepBalloon w d g f) (u : Int) {r : (List Int) × (List Balloon) × Bool} (hm : M.i_Deflate h d u = some r) :
  Calls Try.prog 33 #[.slice k h.length i, .slice g d.length f, iv u] w fun e w' => ∃ (L : Option Addr) (F : Nat) (O : Seg), ∃ (N : Option Addr) (G : Nat) (P : Seg) (Q : Seg), e = .returned (.tuple #[.slice L r.1.length F, .slice N r.2.1.length G, .bool r.2.2]) ∧ ownS Gx.encI r.1 L F O ∧ ownD deepBalloon r.2.1 N G P Q ∧ Mem [] w w' [O, P, Q] := by
 unfold M.i_Deflate at hm
 refine cE Try.func33 ?_
 have M0 := Mem.refl [] w
 refine G_seq (G_region (wR 3 [(0, .slice k h.length i), (1, .slice g d.length f), (2, iv u)] w (W_nil (N_then (G_seq (G_region (wR 3 [(0, .slice k h.length i), (1, .slice g d.length f), (14, .slice k h.length i), (15, .slice g d.length f), (16, iv u)] w ?_)))))))
 obtain ⟨l, aa, hm⟩ := gx_bind hm
 refine wC 59 #[.slice k h.length i, .slice g d.length f, iv u] ((c_i_balloonOf w h k i (H.mem0 M0) d g f (I.mem0 M0) u aa).mono ?_)
 rintro e_ v ⟨rfl, S⟩
 have z := M0.call0 S
 refine ⟨_, rfl, ?_⟩
 refine wR 5 [(0, .slice k h.length i), (1, .slice g d.length f), (9, iv l.1), (10, .bool l.2)] v (W_nil (N_then (G_seq (G_seq (G_region (wR 2 [(0, .slice k h.length i), (1, .slice g d.length f), (9, iv l.1), (21, .bool (!l.2))] v (W_nil (N_then ?_))))))))
 rcases gx_bif hm with ⟨A, hm⟩ | ⟨A, hm⟩
 ·refine gT A (G_seq (G_region (wR 3 [(6, .slice none 0 0), (7, .slice none 0 0), (8, .bool false)] v (W_nil (N_then (G_ret (N_then_ret ?_)))))))
  obtain rfl := Option.some.inj hm
  exact N_ret [.slice none 0 0, .slice none 0 0, .bool false] (rC (rC (rC RVs_nil))) (⟨none, 0, [], none, 0, [], [], rfl, ownS_nil, ownD_nil, z.pk [100000, 100001, 100002]⟩)
 refine gF A (G_skip (N_then (G_seq (G_region (wR 1 [(1, .slice g d.length f), (9, iv l.1), (22, .slice k h.length i)] v ?_)))))
 obtain ⟨q, ab, hm⟩ := gx_bind hm
 refine wC 62 #[.slice k h.length i] ((c_i_copyInts v h k i (H.mem0 z) ab).mono ?_)
 rintro e_ R ⟨b, a, ag, rfl, X, T⟩
 have D := z.call T
 refine ⟨_, rfl, ?_⟩
 refine wR 1 [(9, iv l.1), (23, .slice b q.length a), (24, .slice g d.length f)] R ?_
 obtain ⟨t, ac, hm⟩ := gx_bind hm
 refine wC 60 #[.slice g d.length f] ((c_i_newBalloons R d g f (I.mem0 D) ac).mono ?_)
 rintro e_ y ⟨c, j, ah, ai, rfl, J, U⟩
 have x := D.call U
 refine ⟨_, rfl, ?_⟩
 refine wR 2 [(9, iv l.1), (11, .slice b q.length a), (12, .slice c t.length j)] y (W_nil (N_then (G_seq (G_seq (G_region (wR 3 [(11, .slice b q.length a), (12, .slice c t.length j), (26, .slice b q.length a), (27, .slice c t.length j), (28, iv l.1)] y ?_))))))
 obtain ⟨ao, af, hm⟩ := gx_bind hm
 obtain ⟨ap, K, ad, an⟩ := id J
 obtain ⟨am, W⟩ := gxIdx_fst K af
 refine wV (elemP c (l.1.toNat * 3)) y (eI (ad.rd x 1 (by kernel_rfl)) (len_fst K) W) ?_
 obtain ⟨m, ae, hm⟩ := gx_bind hm
 refine wC 69 #[.slice b q.length a, elemP c (l.1.toNat * 3)] ((c_i_deflate__e1 y q b a ag X t c j ah ai J l.1 (x.hasPick [0, 1, 2]) (x.nodupPick [0, 1, 2] (by kernel_rfl)) ae).mono ?_)
 rintro e_ C ⟨aj, ak, al, rfl, Y, n, Z, o, V⟩
 have E := x.callF' [0, 1, 2] [] (by kernel_rfl) V
 refine ⟨_, rfl, ?_⟩
 refine wX 11 (.slice b q.length a) (.slice b m.2.1.length a) (by first | rw [n, o] | rw [n] | rw [o]) (wX 12 (.slice c t.length j) (.slice c m.2.2.length j) (by first | rw [n, o] | rw [n] | rw [o]) (wX 26 (.slice b q.length a) (.slice b m.2.1.length a) (by first | rw [n, o] | rw [n] | rw [o]) (wX 27 (.slice c t.length j) (.slice c m.2.2.length j) (by first | rw [n, o] | rw [n] | rw [o]) (wR 1 [(11, .slice b m.2.1.length a), (12, .slice c m.2.2.length j), (31, .bool (!m.1))] C (W_nil (N_then ?_))))))
 rcases gx_bif hm with ⟨B, hm⟩ | ⟨B, hm⟩
 ·refine gT B (G_seq (G_region (wR 3 [(6, .slice none 0 0), (7, .slice none 0 0), (8, .bool false)] C (W_nil (N_then (G_ret (N_then_ret ?_)))))))
  obtain rfl := Option.some.inj hm
  exact N_ret [.slice none 0 0, .slice none 0 0, .bool false] (rC (rC (rC RVs_nil))) (⟨none, 0, [], none, 0, [], [], rfl, ownS_nil, ownD_nil, E.pk [100000, 100001, 100002]⟩)
 refine gF B (G_skip (N_then (G_seq (G_region (wR 5 [(6, .slice b m.2.1.length a), (7, .slice c m.2.2.length j), (8, .bool true)] C (W_nil (N_then (G_ret ?_))))))))
 obtain rfl := Option.some.inj hm
 exact N_ret [.slice b m.2.1.length a, .slice c m.2.2.length j, .bool true] (rC (rC (rC RVs_nil))) (⟨b, a, aj, c, j, ak, al, rfl, Y, Z, E.pk [0, 1, 2]⟩)
theorem c_l_FnExactDeflate (w : World) (l : List Int) (n : Option Addr) (m : Nat) (ae : rdS Gx.encI w l n m) (g : List Balloon) (i : Option Addr) (h : Nat) (O : rdD deepBalloon w g i h) (o : Int) {r : Bool} (hm : M.l_FnExactDeflate l g o = some r) :
  Calls Try.prog 8 #[.slice n l.length m, .slice i g.length h, iv o] w fun e w' => e = .returned (.bool r) ∧ Mem [] w w' [] := by
 unfold M.l_FnExactDeflate at hm
 refine cE Try.func8 ?_
 have M0 := Mem.refl [] w
 refine G_seq (G_region (wR 1 [(0, .slice n l.length m), (1, .slice i g.length h), (2, iv o)] w (W_nil (N_then (G_seq (G_seq (G_region (wR 3 [(0, .slice n l.length m), (1, .slice i g.length h), (2, iv o), (24, .bool (decide ((l.length : Int) > 1048576)))] w (W_nil (N_then ?_))))))))))
 rcases gx_bif hm with ⟨bh, hm⟩ | ⟨bh, hm⟩
 ·refine gT bh (G_seq (G_region (wR 1 [(6, .bool true)] w (W_nil (N_then (G_ret (N_then_ret ?_)))))))
  obtain rfl := Option.some.inj hm
  exact N_ret [.bool true] (rC RVs_nil) (⟨rfl, M0.pk []⟩)
 refine gF bh (G_skip (N_then (G_seq (G_region (wR 1 [(0, .slice n l.length m), (1, .slice i g.length h), (2, iv o), (7, iv 1048576)] w (W_nil (N_then (G_seq (G_region (wR 2 [(0, .slice n l.length m), (1, .slice i g.length h), (2, iv o), (7, iv 1048576), (25, .slice i g.length h), (26, iv 1048576)] w ?_))))))))))
 obtain ⟨c7, ev, hm⟩ := gx_bind hm
 refine wC 13 #[.slice i g.length h, iv 1048576] ((c_l_szBalloonS w g i h (O.mem0 M0) 1048576 ev).mono ?_)
 rintro e_ P ⟨rfl, dk⟩
 have ax := M0.call0 dk
 refine ⟨_, rfl, ?_⟩
 refine wR 1 [(0, .slice n l.length m), (1, .slice i g.length h), (2, iv o), (7, iv c7)] P (W_nil (N_then (G_seq (G_seq (G_region (wR 2 [(0, .slice n l.length m), (1, .slice i g.length h), (2, iv o), (29, .bool (decide (c7 < 0)))] P (W_nil (N_then ?_))))))))
 rcases gx_bif hm with ⟨bi, hm⟩ | ⟨bi, hm⟩
 ·refine gT bi (G_seq (G_region (wR 1 [(6, .bool true)] P (W_nil (N_then (G_ret (N_then_ret ?_)))))))
  obtain rfl := Option.some.inj hm
  exact N_ret [.bool true] (rC RVs_nil) (⟨rfl, ax.pk []⟩)
 refine gF bi (G_skip (N_then (G_seq (G_region (wR 1 [(0, .slice n l.length m), (1, .slice i g.length h), (2, iv o), (31, .slice n l.length m)] P ?_)))))
 obtain ⟨ak, ew, hm⟩ := gx_bind hm
 refine wC 15 #[.slice n l.length m] ((c_l_toIntS P l n m (ae.mem0 ax) ew).mono ?_)
 rintro e_ dg ⟨ah, ab, f9, rfl, ej, dl⟩
 have cr := ax.call dl
 refine ⟨_, rfl, ?_⟩
 refine wR 1 [(0, .slice n l.length m), (1, .slice i g.length h), (2, iv o), (32, .slice ah ak.length ab), (33, .slice i g.length h)] dg ?_
 obtain ⟨ca, ex, hm⟩ := gx_bind hm
 refine wC 16 #[.slice i g.length h] ((c_l_toBalloonS dg g i h (O.mem0 cr) ex).mono ?_)
 rintro e_ dh ⟨b8, bf, ga, gb, rfl, ek, dm⟩
 have ay := cr.call dm
 refine ⟨_, rfl, ?_⟩
 refine wR 1 [(0, .slice n l.length m), (1, .slice i g.length h), (2, iv o), (32, .slice ah ak.length ab), (34, .slice b8 ca.length bf), (35, iv o)] dh ?_
 obtain ⟨b, ey, hm⟩ := gx_bind hm
 refine wC 32 #[.slice ah ak.length ab, .slice b8 ca.length bf, iv o] ((c_s_Deflate dh ak ah ab (ej.rd ay 0 (by kernel_rfl)) ca b8 bf (ek.rd ay 1 (by kernel_rfl) 2 (by kernel_rfl)) o ey).mono ?_)
 rintro e_ cg ⟨x, v, da, u, t, db, dc, rfl, b2, b3, dn⟩
 have cs := ay.call dn
 refine ⟨_, rfl, ?_⟩
 refine wR 7 [(0, .slice n l.length m), (1, .slice i g.length h), (2, iv o), (8, .slice x b.1.length v), (9, .slice u b.2.1.length t), (10, .bool b.2.2)] cg (W_nil (N_then (G_seq (G_region (wR 1 [(0, .slice n l.length m), (1, .slice i g.length h), (2, iv o), (8, .slice x b.1.length v), (9, .slice u b.2.1.length t), (10, .bool b.2.2), (40, .slice n l.length m)] cg ?_)))))
 obtain ⟨D, ez, hm⟩ := gx_bind hm
 refine wC 15 #[.slice n l.length m] ((c_l_toIntS cg l n m (ae.mem0 cs) ez).mono ?_)
 rintro e_ ch ⟨B, z, dd, rfl, b4, dp⟩
 have ct := cs.call dp
 refine ⟨_, rfl, ?_⟩
 refine wR 1 [(0, .slice n l.length m), (1, .slice i g.length h), (2, iv o), (8, .slice x b.1.length v), (9, .slice u b.2.1.length t), (10, .bool b.2.2), (11, .slice B D.length z)] ch (W_nil (N_then (G_seq (G_region (wR 1 [(0, .slice n l.length m), (1, .slice i g.length h), (2, iv o), (8, .slice x b.1.length v), (9, .slice u b.2.1.length t), (10, .bool b.2.2), (11, .slice B D.length z), (42, .slice i g.length h)] ch ?_)))))
 obtain ⟨E, e0, hm⟩ := gx_bind hm
 refine wC 16 #[.slice i g.length h] ((c_l_toBalloonS ch g i h (O.mem0 ct) e0).mono ?_)
 rintro e_ ci ⟨C, A, de, df, rfl, b5, dq⟩
 have az := ct.call dq
 refine ⟨_, rfl, ?_⟩
 refine wR 1 [(0, .slice n l.length m), (1, .slice i g.length h), (2, iv o), (8, .slice x b.1.length v), (9, .slice u b.2.1.length t), (10, .bool b.2.2), (11, .slice B D.length z), (12, .slice C E.length A)] ci (W_nil (N_then (G_seq (G_region (wR 3 [(0, .slice n l.length m), (1, .slice i g.length h), (2, iv o), (8, .slice x b.1.length v), (9, .slice u b.2.1.length t), (10, .bool b.2.2), (11, .slice B D.length z), (12, .slice C E.length A), (45, .slice B D.length z), (46, .slice C E.length A), (47, iv o)] ci ?_)))))
 obtain ⟨c, e1, hm⟩ := gx_bind hm
 refine wC 33 #[.slice B D.length z, .slice C E.length A, iv o] ((c_i_Deflate ci D B z (b4.rd az 6 (by kernel_rfl)) E C A (b5.rd az 7 (by kernel_rfl) 8 (by kernel_rfl)) o e1).mono ?_)
 rintro e_ cj ⟨k, j, cd, f, d, ce, cf, rfl, b6, b7, dr⟩
 have a0 := az.call dr
 refine ⟨_, rfl, ?_⟩
 refine wR 7 [(0, .slice n l.length m), (1, .slice i g.length h), (2, iv o), (8, .slice x b.1.length v), (9, .slice u b.2.1.length t), (10, .bool b.2.2), (11, .slice B D.length z), (12, .slice C E.length A), (13, .slice k c.1.length j), (14, .slice f c.2.1.length d), (15, .bool c.2.2)] cj (W_nil (N_then (G_seq (G_seq ?_))))
 obtain ⟨fn, el, eg⟩ := gx_bind hm
 refine G_meet (fun a w' => Mem [] w w' [da, db, dc, dd, de, df, cd, ce, cf] ∧ Sat Try.f8.ntmps [(0, .slice n l.length m), (1, .slice i g.length h), (2, iv o), (8, .slice x b.1.length v), (9, .slice u b.2.1.length t), (10, .bool b.2.2), (11, .slice B D.length z), (12, .slice C E.length A), (13, .slice k c.1.length j), (14, .slice f c.2.1.length d), (15, .bool c.2.2), (66, .bool fn)] a) ?_ ?_
 ·have hm := el
  refine G_region (wR 2 [(0, .slice n l.length m), (1, .slice i g.length h), (2, iv o), (8, .slice x b.1.length v), (9, .slice u b.2.1.length t), (10, .bool b.2.2), (11, .slice B D.length z), (12, .slice C E.length A), (13, .slice k c.1.length j), (14, .slice f c.2.1.length d), (15, .bool c.2.2), (52, .slice k c.1.length j), (53, .slice x b.1.length v)] cj ?_)
  obtain ⟨fq, e2, hm⟩ := gx_bind hm
  refine wC 18 #[.slice k c.1.length j, .slice x b.1.length v] ((c_l_eqIntS cj c.1 k j (b6.rd a0 9 (by kernel_rfl)) b.1 x v (b2.rd a0 3 (by kernel_rfl)) e2).mono ?_)
  rintro e_ ao ⟨rfl, ds⟩
  have U := a0.call0 ds
  refine ⟨_, rfl, ?_⟩
  refine wR 2 [(0, .slice n l.length m), (1, .slice i g.length h), (2, iv o), (8, .slice x b.1.length v), (9, .slice u b.2.1.length t), (10, .bool b.2.2), (11, .slice B D.length z), (12, .slice C E.length A), (13, .slice k c.1.length j), (14, .slice f c.2.1.length d), (15, .bool c.2.2), (56, .bool (!fq))] ao ?_
  rcases gx_bif hm with ⟨bj, hm⟩ | ⟨bj, hm⟩
  ·refine wK 56 true bj (wR 10 [(0, .slice n l.length m), (1, .slice i g.length h), (2, iv o), (8, .slice x b.1.length v), (9, .slice u b.2.1.length t), (10, .bool b.2.2), (11, .slice B D.length z), (12, .slice C E.length A), (13, .slice k c.1.length j), (14, .slice f c.2.1.length d), (15, .bool c.2.2), (66, .bool true)] ao (W_nil ?_))
   obtain rfl := Option.some.inj hm
   exact N_meet fun a ha => ⟨U.pk [3, 4, 5, 6, 7, 8, 9, 10, 11], ha.s⟩
  refine wK 56 false bj (wR 2 [(0, .slice n l.length m), (1, .slice i g.length h), (2, iv o), (8, .slice x b.1.length v), (9, .slice u b.2.1.length t), (10, .bool b.2.2), (11, .slice B D.length z), (12, .slice C E.length A), (13, .slice k c.1.length j), (14, .slice f c.2.1.length d), (15, .bool c.2.2), (56, .bool false), (57, .slice f c.2.1.length d), (58, .slice u b.2.1.length t)] ao ?_)
  obtain ⟨fr, e3, hm⟩ := gx_bind hm
  refine wC 19 #[.slice f c.2.1.length d, .slice u b.2.1.length t] ((c_l_eqBalloonS ao c.2.1 f d (b7.rd U 10 (by kernel_rfl) 11 (by kernel_rfl)) b.2.1 u t (b3.rd U 4 (by kernel_rfl) 5 (by kernel_rfl)) e3).mono ?_)
  rintro e_ ck ⟨rfl, dt⟩
  have cu := U.call0 dt
  refine ⟨_, rfl, ?_⟩
  refine wR 3 [(0, .slice n l.length m), (1, .slice i g.length h), (2, iv o), (8, .slice x b.1.length v), (9, .slice u b.2.1.length t), (10, .bool b.2.2), (11, .slice B D.length z), (12, .slice C E.length A), (13, .slice k c.1.length j), (14, .slice f c.2.1.length d), (15, .bool c.2.2), (62, .bool (!fr))] ck ?_
  rcases gx_bif hm with ⟨bk, hm⟩ | ⟨bk, hm⟩
  ·refine wK 62 true bk (wR 4 [(0, .slice n l.length m), (1, .slice i g.length h), (2, iv o), (8, .slice x b.1.length v), (9, .slice u b.2.1.length t), (10, .bool b.2.2), (11, .slice B D.length z), (12, .slice C E.length A), (13, .slice k c.1.length j), (14, .slice f c.2.1.length d), (15, .bool c.2.2), (66, .bool true)] ck (W_nil ?_))
   obtain rfl := Option.some.inj hm
   exact N_meet fun a ha => ⟨cu.pk [3, 4, 5, 6, 7, 8, 9, 10, 11], ha.s⟩
  refine wK 62 false bk (wR 4 [(0, .slice n l.length m), (1, .slice i g.length h), (2, iv o), (8, .slice x b.1.length v), (9, .slice u b.2.1.length t), (10, .bool b.2.2), (11, .slice B D.length z), (12, .slice C E.length A), (13, .slice k c.1.length j), (14, .slice f c.2.1.length d), (15, .bool c.2.2), (66, .bool (!(c.2.2 == b.2.2)))] ck (W_nil ?_))
  obtain rfl := Option.some.inj hm
  exact N_meet fun a ha => ⟨cu.pk [3, 4, 5, 6, 7, 8, 9, 10, 11], ha.s⟩
 intro f3 cl ⟨a3, ed⟩
 refine N_use ed ?_
 have hm := eg
 refine N_then ?_
 rcases gx_bif hm with ⟨bl, hm⟩ | ⟨bl, hm⟩
 ·refine gT bl (G_seq (G_region (wR 1 [(6, .bool false)] cl (W_nil (N_then (G_ret (N_then_ret ?_)))))))
  obtain rfl := Option.some.inj hm
  exact N_ret [.bool false] (rC RVs_nil) (⟨rfl, a3.pk []⟩)
 refine gF bl (G_skip (N_then (G_seq (G_seq (G_region (wR 2 [(0, .slice n l.length m), (1, .slice i g.length h), (2, iv o), (8, .slice x b.1.length v), (9, .slice u b.2.1.length t), (10, .bool b.2.2), (11, .slice B D.length z), (12, .slice C E.length A), (13, .slice k c.1.length j), (14, .slice f c.2.1.length d), (15, .bool c.2.2), (67, .slice B D.length z), (68, .slice n l.length m)] cl ?_))))))
 obtain ⟨c8, e4, hm⟩ := gx_bind hm
 refine wC 15 #[.slice n l.length m] ((c_l_toIntS cl l n m (ae.mem0 a3) e4).mono ?_)
 rintro e_ f1 ⟨c5, cz, gc, rfl, em, du⟩
 have a4 := a3.call du
 refine ⟨_, rfl, ?_⟩
 obtain ⟨fs, e5, hm⟩ := gx_bind hm
 refine wC 18 #[.slice B D.length z, .slice c5 c8.length cz] ((c_l_eqIntS f1 D B z (b4.rd a4 3 (by kernel_rfl)) c8 c5 cz (em.rd a4 9 (by kernel_rfl)) e5).mono ?_)
 rintro e_ ap ⟨rfl, dv⟩
 have a5 := a4.call0 dv
 refine ⟨_, rfl, ?_⟩
 refine wR 1 [(0, .slice n l.length m), (1, .slice i g.length h), (2, iv o), (8, .slice x b.1.length v), (9, .slice u b.2.1.length t), (10, .bool b.2.2), (11, .slice B D.length z), (12, .slice C E.length A), (13, .slice k c.1.length j), (14, .slice f c.2.1.length d), (15, .bool c.2.2), (71, .bool (!fs))] ap (W_nil (N_then ?_))
 rcases gx_bif hm with ⟨bm, hm⟩ | ⟨bm, hm⟩
 ·refine gT bm (G_seq (G_region (wR 1 [(6, .bool false)] ap (W_nil (N_then (G_ret (N_then_ret ?_)))))))
  obtain rfl := Option.some.inj hm
  exact N_ret [.bool false] (rC RVs_nil) (⟨rfl, a5.pk []⟩)
 refine gF bm (G_skip (N_then (G_seq (G_seq (G_region (wR 2 [(0, .slice n l.length m), (1, .slice i g.length h), (2, iv o), (8, .slice x b.1.length v), (9, .slice u b.2.1.length t), (10, .bool b.2.2), (11, .slice B D.length z), (12, .slice C E.length A), (13, .slice k c.1.length j), (14, .slice f c.2.1.length d), (15, .bool c.2.2), (72, .slice C E.length A), (73, .slice i g.length h)] ap ?_))))))
 obtain ⟨c9, e6, hm⟩ := gx_bind hm
 refine wC 16 #[.slice i g.length h] ((c_l_toBalloonS ap g i h (O.mem0 a5) e6).mono ?_)
 rintro e_ f2 ⟨c6, c0, gd, ge, rfl, en, dw⟩
 have a6 := a5.call dw
 refine ⟨_, rfl, ?_⟩
 obtain ⟨ft, e7, hm⟩ := gx_bind hm
 refine wC 19 #[.slice C E.length A, .slice c6 c9.length c0] ((c_l_eqBalloonS f2 E C A (b5.rd a6 4 (by kernel_rfl) 5 (by kernel_rfl)) c9 c6 c0 (en.rd a6 10 (by kernel_rfl) 11 (by kernel_rfl)) e7).mono ?_)
 rintro e_ Q ⟨rfl, dx⟩
 have V := a6.call0 dx
 refine ⟨_, rfl, ?_⟩
 refine wR 1 [(0, .slice n l.length m), (1, .slice i g.length h), (2, iv o), (8, .slice x b.1.length v), (9, .slice u b.2.1.length t), (10, .bool b.2.2), (11, .slice B D.length z), (12, .slice C E.length A), (13, .slice k c.1.length j), (14, .slice f c.2.1.length d), (15, .bool c.2.2), (76, .bool (!ft))] Q (W_nil (N_then ?_))
 rcases gx_bif hm with ⟨bn, hm⟩ | ⟨bn, hm⟩
 ·refine gT bn (G_seq (G_region (wR 1 [(6, .bool false)] Q (W_nil (N_then (G_ret (N_then_ret ?_)))))))
  obtain rfl := Option.some.inj hm
  exact N_ret [.bool false] (rC RVs_nil) (⟨rfl, V.pk []⟩)
 refine gF bn (G_skip (N_then (G_seq (G_region (wR 1 [(0, .slice n l.length m), (1, .slice i g.length h), (2, iv o), (8, .slice x b.1.length v), (9, .slice u b.2.1.length t), (10, .bool b.2.2), (11, .slice B D.length z), (12, .slice C E.length A), (13, .slice k c.1.length j), (14, .slice f c.2.1.length d), (15, .bool c.2.2), (16, iv 1)] Q (W_nil (N_then (G_seq (G_region (wR 2 [(0, .slice n l.length m), (1, .slice i g.length h), (2, iv o), (8, .slice x b.1.length v), (9, .slice u b.2.1.length t), (10, .bool b.2.2), (12, .slice C E.length A), (13, .slice k c.1.length j), (14, .slice f c.2.1.length d), (15, .bool c.2.2), (16, iv 1), (77, .slice B D.length z), (78, iv 1)] Q ?_))))))))))
 obtain ⟨L, e8, hm⟩ := gx_bind hm
 refine wC 24 #[.slice B D.length z, iv 1] ((c_l_markIntS Q D B z dd b4 1 (V.hasPick [3]) (V.nodupPick [3] (by kernel_rfl)) e8).mono ?_)
 rintro e_ cm ⟨gf, rfl, f6, c1, dy⟩
 have a7 := V.callF' [3] [0, 1, 2, 4, 5, 6, 7, 8, 9, 10, 11] (by kernel_rfl) dy
 refine ⟨_, rfl, ?_⟩
 refine wX 77 (.slice B D.length z) (.slice B L.2.length z) (by first | rw [c1] | rw [c1]) (wR 1 [(0, .slice n l.length m), (1, .slice i g.length h), (2, iv o), (8, .slice x b.1.length v), (9, .slice u b.2.1.length t), (10, .bool b.2.2), (12, .slice C E.length A), (13, .slice k c.1.length j), (14, .slice f c.2.1.length d), (15, .bool c.2.2), (16, iv L.1)] cm (W_nil (N_then (G_seq (G_region (wR 2 [(0, .slice n l.length m), (1, .slice i g.length h), (2, iv o), (8, .slice x b.1.length v), (9, .slice u b.2.1.length t), (10, .bool b.2.2), (13, .slice k c.1.length j), (14, .slice f c.2.1.length d), (15, .bool c.2.2), (16, iv L.1), (80, .slice C E.length A), (81, iv L.1)] cm ?_))))))
 obtain ⟨cb, e9, hm⟩ := gx_bind hm
 refine wC 25 #[.slice C E.length A, iv L.1] ((c_l_markBalloonS cm E C A de df b5 L.1 (a7.hasPick [3, 4]) (a7.nodupPick [3, 4] (by kernel_rfl)) e9).mono ?_)
 rintro e_ R ⟨gg, gh, rfl, f7, c2, dz⟩
 have W := a7.callF' [3, 4] [0, 1, 2, 5, 6, 7, 8, 9, 10, 11] (by kernel_rfl) dz
 refine ⟨_, rfl, ?_⟩
 refine wX 80 (.slice C E.length A) (.slice C cb.2.length A) (by first | rw [c2] | rw [c2]) (wR 1 [(0, .slice n l.length m), (1, .slice i g.length h), (2, iv o), (8, .slice x b.1.length v), (9, .slice u b.2.1.length t), (10, .bool b.2.2), (13, .slice k c.1.length j), (14, .slice f c.2.1.length d), (15, .bool c.2.2), (16, iv cb.1)] R (W_nil (N_then (G_seq (G_seq ?_)))))
 obtain ⟨fo, eo, eh⟩ := gx_bind hm
 refine G_meet (fun a w' => Mem [] w w' [da, db, dc, cd, ce, cf] ∧ Sat Try.f8.ntmps [(0, .slice n l.length m), (1, .slice i g.length h), (2, iv o), (8, .slice x b.1.length v), (9, .slice u b.2.1.length t), (10, .bool b.2.2), (13, .slice k c.1.length j), (14, .slice f c.2.1.length d), (101, .bool fo)] a) ?_ ?_
 ·have hm := eo
  refine G_region (wR 3 [(0, .slice n l.length m), (1, .slice i g.length h), (2, iv o), (8, .slice x b.1.length v), (9, .slice u b.2.1.length t), (10, .bool b.2.2), (13, .slice k c.1.length j), (14, .slice f c.2.1.length d), (15, .bool c.2.2), (85, .bool (decide (cb.1 < 0)))] R ?_)
  rcases gx_bif hm with ⟨bo, hm⟩ | ⟨bo, hm⟩
  ·refine wK 85 true bo (wR 16 [(0, .slice n l.length m), (1, .slice i g.length h), (2, iv o), (8, .slice x b.1.length v), (9, .slice u b.2.1.length t), (10, .bool b.2.2), (13, .slice k c.1.length j), (14, .slice f c.2.1.length d), (101, .bool true)] R (W_nil ?_))
   obtain rfl := Option.some.inj hm
   exact N_meet fun a ha => ⟨W.pk [0, 1, 2, 3, 4, 5], ha.s⟩
  refine wK 85 false bo (wR 2 [(0, .slice n l.length m), (1, .slice i g.length h), (2, iv o), (8, .slice x b.1.length v), (9, .slice u b.2.1.length t), (10, .bool b.2.2), (13, .slice k c.1.length j), (14, .slice f c.2.1.length d), (15, .bool c.2.2), (85, .bool false), (86, .slice k c.1.length j), (87, .slice x b.1.length v)] R ?_)
  obtain ⟨fu, fa, hm⟩ := gx_bind hm
  refine wC 18 #[.slice k c.1.length j, .slice x b.1.length v] ((c_l_eqIntS R c.1 k j (b6.rd W 3 (by kernel_rfl)) b.1 x v (b2.rd W 0 (by kernel_rfl)) fa).mono ?_)
  rintro e_ aq ⟨rfl, d0⟩
  have X := W.call0 d0
  refine ⟨_, rfl, ?_⟩
  refine wR 3 [(0, .slice n l.length m), (1, .slice i g.length h), (2, iv o), (8, .slice x b.1.length v), (9, .slice u b.2.1.length t), (10, .bool b.2.2), (13, .slice k c.1.length j), (14, .slice f c.2.1.length d), (15, .bool c.2.2), (91, .bool (!fu))] aq ?_
  rcases gx_bif hm with ⟨bp, hm⟩ | ⟨bp, hm⟩
  ·refine wK 91 true bp (wR 10 [(0, .slice n l.length m), (1, .slice i g.length h), (2, iv o), (8, .slice x b.1.length v), (9, .slice u b.2.1.length t), (10, .bool b.2.2), (13, .slice k c.1.length j), (14, .slice f c.2.1.length d), (101, .bool true)] aq (W_nil ?_))
   obtain rfl := Option.some.inj hm
   exact N_meet fun a ha => ⟨X.pk [0, 1, 2, 3, 4, 5], ha.s⟩
  refine wK 91 false bp (wR 2 [(0, .slice n l.length m), (1, .slice i g.length h), (2, iv o), (8, .slice x b.1.length v), (9, .slice u b.2.1.length t), (10, .bool b.2.2), (13, .slice k c.1.length j), (14, .slice f c.2.1.length d), (15, .bool c.2.2), (91, .bool false), (92, .slice f c.2.1.length d), (93, .slice u b.2.1.length t)] aq ?_)
  obtain ⟨fv, fb, hm⟩ := gx_bind hm
  refine wC 19 #[.slice f c.2.1.length d, .slice u b.2.1.length t] ((c_l_eqBalloonS aq c.2.1 f d (b7.rd X 4 (by kernel_rfl) 5 (by kernel_rfl)) b.2.1 u t (b3.rd X 1 (by kernel_rfl) 2 (by kernel_rfl)) fb).mono ?_)
  rintro e_ cn ⟨rfl, d1⟩
  have cv := X.call0 d1
  refine ⟨_, rfl, ?_⟩
  refine wR 3 [(0, .slice n l.length m), (1, .slice i g.length h), (2, iv o), (8, .slice x b.1.length v), (9, .slice u b.2.1.length t), (10, .bool b.2.2), (13, .slice k c.1.length j), (14, .slice f c.2.1.length d), (15, .bool c.2.2), (97, .bool (!fv))] cn ?_
  rcases gx_bif hm with ⟨bq, hm⟩ | ⟨bq, hm⟩
  ·refine wK 97 true bq (wR 4 [(0, .slice n l.length m), (1, .slice i g.length h), (2, iv o), (8, .slice x b.1.length v), (9, .slice u b.2.1.length t), (10, .bool b.2.2), (13, .slice k c.1.length j), (14, .slice f c.2.1.length d), (101, .bool true)] cn (W_nil ?_))
   obtain rfl := Option.some.inj hm
   exact N_meet fun a ha => ⟨cv.pk [0, 1, 2, 3, 4, 5], ha.s⟩
  refine wK 97 false bq (wR 4 [(0, .slice n l.length m), (1, .slice i g.length h), (2, iv o), (8, .slice x b.1.length v), (9, .slice u b.2.1.length t), (10, .bool b.2.2), (13, .slice k c.1.length j), (14, .slice f c.2.1.length d), (101, .bool (!(c.2.2 == b.2.2)))] cn (W_nil ?_))
  obtain rfl := Option.some.inj hm
  exact N_meet fun a ha => ⟨cv.pk [0, 1, 2, 3, 4, 5], ha.s⟩
 intro f4 ar ⟨Y, ee⟩
 refine N_use ee ?_
 have hm := eh
 refine N_then ?_
 rcases gx_bif hm with ⟨br, hm⟩ | ⟨br, hm⟩
 ·refine gT br (G_seq (G_region (wR 1 [(6, .bool false)] ar (W_nil (N_then (G_ret (N_then_ret ?_)))))))
  obtain rfl := Option.some.inj hm
  exact N_ret [.bool false] (rC RVs_nil) (⟨rfl, Y.pk []⟩)
 refine gF br (G_skip (N_then (G_seq (G_region (wR 1 [(0, .slice n l.length m), (1, .slice i g.length h), (2, iv o), (8, .slice x b.1.length v), (9, .slice u b.2.1.length t), (10, .bool b.2.2), (13, .slice k c.1.length j), (14, .slice f c.2.1.length d), (17, iv 1)] ar (W_nil (N_then (G_seq (G_region (wR 2 [(0, .slice n l.length m), (1, .slice i g.length h), (2, iv o), (8, .slice x b.1.length v), (9, .slice u b.2.1.length t), (10, .bool b.2.2), (13, .slice k c.1.length j), (14, .slice f c.2.1.length d), (17, iv 1), (102, .slice k c.1.length j), (103, iv 1)] ar ?_))))))))))
 obtain ⟨y, fc, hm⟩ := gx_bind hm
 refine wC 24 #[.slice k c.1.length j, iv 1] ((c_l_markIntS ar c.1 k j cd b6 1 (Y.hasPick [3]) (Y.nodupPick [3] (by kernel_rfl)) fc).mono ?_)
 rintro e_ co ⟨fy, rfl, c3, af, d2⟩
 have a8 := Y.callF' [3] [0, 1, 2, 4, 5] (by kernel_rfl) d2
 refine ⟨_, rfl, ?_⟩
 refine wX 13 (.slice k c.1.length j) (.slice k y.2.length j) (by first | rw [af] | rw [af]) (wX 102 (.slice k c.1.length j) (.slice k y.2.length j) (by first | rw [af] | rw [af]) (wR 1 [(0, .slice n l.length m), (1, .slice i g.length h), (2, iv o), (8, .slice x b.1.length v), (9, .slice u b.2.1.length t), (10, .bool b.2.2), (13, .slice k y.2.length j), (14, .slice f c.2.1.length d), (17, iv y.1)] co (W_nil (N_then (G_seq (G_region (wR 2 [(0, .slice n l.length m), (1, .slice i g.length h), (2, iv o), (8, .slice x b.1.length v), (9, .slice u b.2.1.length t), (10, .bool b.2.2), (13, .slice k y.2.length j), (14, .slice f c.2.1.length d), (17, iv y.1), (105, .slice f c.2.1.length d), (106, iv y.1)] co ?_)))))))
 obtain ⟨q, fd, hm⟩ := gx_bind hm
 refine wC 25 #[.slice f c.2.1.length d, iv y.1] ((c_l_markBalloonS co c.2.1 f d ce cf b7 y.1 (a8.hasPick [3, 4]) (a8.nodupPick [3, 4] (by kernel_rfl)) fd).mono ?_)
 rintro e_ au ⟨fz, f0, rfl, c4, ag, d3⟩
 have cw := a8.callF' [3, 4] [0, 1, 2, 5] (by kernel_rfl) d3
 refine ⟨_, rfl, ?_⟩
 refine wX 14 (.slice f c.2.1.length d) (.slice f q.2.length d) (by first | rw [ag] | rw [ag]) (wX 105 (.slice f c.2.1.length d) (.slice f q.2.length d) (by first | rw [ag] | rw [ag]) (wR 1 [(0, .slice n l.length m), (1, .slice i g.length h), (2, iv o), (8, .slice x b.1.length v), (9, .slice u b.2.1.length t), (10, .bool b.2.2), (13, .slice k y.2.length j), (14, .slice f q.2.length d), (17, iv q.1)] au (W_nil (N_then (G_seq (G_region (wR 1 [(0, .slice n l.length m), (1, .slice i g.length h), (2, iv o), (8, .slice x b.1.length v), (9, .slice u b.2.1.length t), (10, .bool b.2.2), (13, .slice k y.2.length j), (14, .slice f q.2.length d), (17, iv q.1), (18, iv 1)] au (W_nil (N_then (G_seq (G_region (wR 2 [(0, .slice n l.length m), (1, .slice i g.length h), (2, iv o), (8, .slice x b.1.length v), (9, .slice u b.2.1.length t), (10, .bool b.2.2), (13, .slice k y.2.length j), (14, .slice f q.2.length d), (17, iv q.1), (18, iv 1), (108, .slice k y.2.length j), (109, iv 1)] au ?_))))))))))))
 obtain ⟨G, fe, hm⟩ := gx_bind hm
 refine wC 29 #[.slice k y.2.length j, iv 1] ((c_l_heldIntS au y.2 k j (c3.rd cw 3 (by kernel_rfl)) 1 fe).mono ?_)
 rintro e_ S ⟨rfl, d4⟩
 have a9 := cw.call0 d4
 refine ⟨_, rfl, ?_⟩
 refine wR 1 [(0, .slice n l.length m), (1, .slice i g.length h), (2, iv o), (8, .slice x b.1.length v), (9, .slice u b.2.1.length t), (10, .bool b.2.2), (13, .slice k y.2.length j), (14, .slice f q.2.length d), (17, iv q.1), (18, iv G)] S (W_nil (N_then (G_seq (G_seq (G_region (wR 2 [(0, .slice n l.length m), (1, .slice i g.length h), (2, iv o), (8, .slice x b.1.length v), (9, .slice u b.2.1.length t), (10, .bool b.2.2), (13, .slice k y.2.length j), (14, .slice f q.2.length d), (17, iv q.1), (18, iv G), (112, .bool (decide (G < 0)))] S (W_nil (N_then ?_))))))))
 rcases gx_bif hm with ⟨bs, hm⟩ | ⟨bs, hm⟩
 ·refine gT bs (G_seq (G_region (wR 1 [(6, .bool false)] S (W_nil (N_then (G_ret (N_then_ret ?_)))))))
  obtain rfl := Option.some.inj hm
  exact N_ret [.bool false] (rC RVs_nil) (⟨rfl, a9.pk []⟩)
 refine gF bs (G_skip (N_then (G_seq (G_region (wR 2 [(0, .slice n l.length m), (1, .slice i g.length h), (2, iv o), (8, .slice x b.1.length v), (9, .slice u b.2.1.length t), (10, .bool b.2.2), (13, .slice k y.2.length j), (14, .slice f q.2.length d), (17, iv q.1), (18, iv G), (113, .slice f q.2.length d), (114, iv G)] S ?_)))))
 obtain ⟨al, ff, hm⟩ := gx_bind hm
 refine wC 26 #[.slice f q.2.length d, iv G] ((c_l_heldBalloonS S q.2 f d (c4.rd a9 4 (by kernel_rfl) 5 (by kernel_rfl)) G ff).mono ?_)
 rintro e_ I ⟨rfl, d5⟩
 have Z := a9.call0 d5
 refine ⟨_, rfl, ?_⟩
 refine wR 1 [(0, .slice n l.length m), (1, .slice i g.length h), (2, iv o), (8, .slice x b.1.length v), (9, .slice u b.2.1.length t), (10, .bool b.2.2), (13, .slice k y.2.length j), (14, .slice f q.2.length d), (17, iv q.1), (18, iv al)] I (W_nil (N_then (G_seq (G_seq (G_region (wR 2 [(0, .slice n l.length m), (1, .slice i g.length h), (2, iv o), (8, .slice x b.1.length v), (9, .slice u b.2.1.length t), (10, .bool b.2.2), (13, .slice k y.2.length j), (14, .slice f q.2.length d), (17, iv q.1), (18, iv al), (117, .bool (decide (al < 0)))] I (W_nil (N_then ?_))))))))
 rcases gx_bif hm with ⟨bt, hm⟩ | ⟨bt, hm⟩
 ·refine gT bt (G_seq (G_region (wR 1 [(6, .bool false)] I (W_nil (N_then (G_ret (N_then_ret ?_)))))))
  obtain rfl := Option.some.inj hm
  exact N_ret [.bool false] (rC RVs_nil) (⟨rfl, Z.pk []⟩)
 refine gF bt (G_skip (N_then (G_seq (G_seq (G_region (wR 3 [(0, .slice n l.length m), (1, .slice i g.length h), (2, iv o), (8, .slice x b.1.length v), (9, .slice u b.2.1.length t), (10, .bool b.2.2), (13, .slice k y.2.length j), (14, .slice f q.2.length d), (17, iv q.1), (120, .bool (al != q.1))] I (W_nil (N_then ?_))))))))
 rcases gx_bif hm with ⟨bu, hm⟩ | ⟨bu, hm⟩
 ·refine gT bu (G_seq (G_region (wR 1 [(6, .bool false)] I (W_nil (N_then (G_ret (N_then_ret ?_)))))))
  obtain rfl := Option.some.inj hm
  exact N_ret [.bool false] (rC RVs_nil) (⟨rfl, Z.pk []⟩)
 refine gF bu (G_skip (N_then (G_seq (G_region (wR 1 [(1, .slice i g.length h), (2, iv o), (8, .slice x b.1.length v), (9, .slice u b.2.1.length t), (10, .bool b.2.2), (13, .slice k y.2.length j), (14, .slice f q.2.length d), (17, iv q.1), (122, .slice n l.length m)] I ?_)))))
 obtain ⟨am, fg, hm⟩ := gx_bind hm
 refine wC 15 #[.slice n l.length m] ((c_l_toIntS I l n m (ae.mem0 Z) fg).mono ?_)
 rintro e_ di ⟨ai, ac, gi, rfl, ep, d6⟩
 have cx := Z.call d6
 refine ⟨_, rfl, ?_⟩
 refine wR 1 [(2, iv o), (8, .slice x b.1.length v), (9, .slice u b.2.1.length t), (10, .bool b.2.2), (13, .slice k y.2.length j), (14, .slice f q.2.length d), (17, iv q.1), (123, .slice ai am.length ac), (124, .slice i g.length h)] di ?_
 obtain ⟨cc, fh, hm⟩ := gx_bind hm
 refine wC 16 #[.slice i g.length h] ((c_l_toBalloonS di g i h (O.mem0 cx) fh).mono ?_)
 rintro e_ dj ⟨b9, bg, gj, gk, rfl, er, d7⟩
 have ba := cx.call d7
 refine ⟨_, rfl, ?_⟩
 refine wR 1 [(8, .slice x b.1.length v), (9, .slice u b.2.1.length t), (10, .bool b.2.2), (13, .slice k y.2.length j), (14, .slice f q.2.length d), (17, iv q.1), (123, .slice ai am.length ac), (125, .slice b9 cc.length bg), (126, iv o)] dj ?_
 obtain ⟨F, fi, hm⟩ := gx_bind hm
 refine wC 33 #[.slice ai am.length ac, .slice b9 cc.length bg, iv o] ((c_i_Deflate dj am ai ac (ep.rd ba 6 (by kernel_rfl)) cc b9 bg (er.rd ba 7 (by kernel_rfl) 8 (by kernel_rfl)) o fi).mono ?_)
 rintro e_ cp ⟨aj, ad, gl, K, J, gm, gn, rfl, es, et, d8⟩
 have bb := ba.call d8
 refine ⟨_, rfl, ?_⟩
 refine wR 7 [(8, .slice x b.1.length v), (9, .slice u b.2.1.length t), (10, .bool b.2.2), (13, .slice k y.2.length j), (14, .slice f q.2.length d), (17, iv q.1), (19, .slice aj F.1.length ad), (20, .slice K F.2.1.length J), (21, .bool F.2.2)] cp (W_nil (N_then (G_seq (G_seq ?_))))
 obtain ⟨fp, eu, ei⟩ := gx_bind hm
 refine G_meet (fun a w' => Mem [] w w' [fy, fz, f0] ∧ Sat Try.f8.ntmps [(13, .slice k y.2.length j), (14, .slice f q.2.length d), (17, iv q.1), (145, .bool fp)] a) ?_ ?_
 ·have hm := eu
  refine G_region (wR 2 [(9, .slice u b.2.1.length t), (10, .bool b.2.2), (13, .slice k y.2.length j), (14, .slice f q.2.length d), (17, iv q.1), (20, .slice K F.2.1.length J), (21, .bool F.2.2), (131, .slice aj F.1.length ad), (132, .slice x b.1.length v)] cp ?_)
  obtain ⟨fw, fj, hm⟩ := gx_bind hm
  refine wC 18 #[.slice aj F.1.length ad, .slice x b.1.length v] ((c_l_eqIntS cp F.1 aj ad (es.rd bb 9 (by kernel_rfl)) b.1 x v (b2.rd bb 0 (by kernel_rfl)) fj).mono ?_)
  rintro e_ av ⟨rfl, d9⟩
  have aa := bb.call0 d9
  refine ⟨_, rfl, ?_⟩
  refine wR 2 [(9, .slice u b.2.1.length t), (10, .bool b.2.2), (13, .slice k y.2.length j), (14, .slice f q.2.length d), (17, iv q.1), (20, .slice K F.2.1.length J), (21, .bool F.2.2), (135, .bool (!fw))] av ?_
  rcases gx_bif hm with ⟨bv, hm⟩ | ⟨bv, hm⟩
  ·refine wK 135 true bv (wR 10 [(13, .slice k y.2.length j), (14, .slice f q.2.length d), (17, iv q.1), (145, .bool true)] av (W_nil ?_))
   obtain rfl := Option.some.inj hm
   exact N_meet fun a ha => ⟨aa.pk [3, 4, 5], ha.s⟩
  refine wK 135 false bv (wR 2 [(10, .bool b.2.2), (13, .slice k y.2.length j), (14, .slice f q.2.length d), (17, iv q.1), (21, .bool F.2.2), (135, .bool false), (136, .slice K F.2.1.length J), (137, .slice u b.2.1.length t)] av ?_)
  obtain ⟨fx, fk, hm⟩ := gx_bind hm
  refine wC 19 #[.slice K F.2.1.length J, .slice u b.2.1.length t] ((c_l_eqBalloonS av F.2.1 K J (et.rd aa 10 (by kernel_rfl) 11 (by kernel_rfl)) b.2.1 u t (b3.rd aa 1 (by kernel_rfl) 2 (by kernel_rfl)) fk).mono ?_)
  rintro e_ cq ⟨rfl, ea⟩
  have cy := aa.call0 ea
  refine ⟨_, rfl, ?_⟩
  refine wR 3 [(10, .bool b.2.2), (13, .slice k y.2.length j), (14, .slice f q.2.length d), (17, iv q.1), (21, .bool F.2.2), (141, .bool (!fx))] cq ?_
  rcases gx_bif hm with ⟨bw, hm⟩ | ⟨bw, hm⟩
  ·refine wK 141 true bw (wR 4 [(13, .slice k y.2.length j), (14, .slice f q.2.length d), (17, iv q.1), (145, .bool true)] cq (W_nil ?_))
   obtain rfl := Option.some.inj hm
   exact N_meet fun a ha => ⟨cy.pk [3, 4, 5], ha.s⟩
  refine wK 141 false bw (wR 4 [(13, .slice k y.2.length j), (14, .slice f q.2.length d), (17, iv q.1), (145, .bool (!(F.2.2 == b.2.2)))] cq (W_nil ?_))
  obtain rfl := Option.some.inj hm
  exact N_meet fun a ha => ⟨cy.pk [3, 4, 5], ha.s⟩
 intro f5 aw ⟨bc, ef⟩
 refine N_use ef ?_
 have hm := ei
 refine N_then ?_
 rcases gx_bif hm with ⟨bx, hm⟩ | ⟨bx, hm⟩
 ·refine gT bx (G_seq (G_region (wR 1 [(6, .bool false)] aw (W_nil (N_then (G_ret (N_then_ret ?_)))))))
  obtain rfl := Option.some.inj hm
  exact N_ret [.bool false] (rC RVs_nil) (⟨rfl, bc.pk []⟩)
 refine gF bx (G_skip (N_then (G_seq (G_region (wR 1 [(13, .slice k y.2.length j), (14, .slice f q.2.length d), (17, iv q.1), (18, iv 1)] aw (W_nil (N_then (G_seq (G_region (wR 2 [(14, .slice f q.2.length d), (17, iv q.1), (18, iv 1), (146, .slice k y.2.length j), (147, iv 1)] aw ?_))))))))))
 obtain ⟨H, fl, hm⟩ := gx_bind hm
 refine wC 29 #[.slice k y.2.length j, iv 1] ((c_l_heldIntS aw y.2 k j (c3.rd bc 0 (by kernel_rfl)) 1 fl).mono ?_)
 rintro e_ T ⟨rfl, eb⟩
 have bd := bc.call0 eb
 refine ⟨_, rfl, ?_⟩
 refine wR 1 [(14, .slice f q.2.length d), (17, iv q.1), (18, iv H)] T (W_nil (N_then (G_seq (G_seq (G_region (wR 2 [(14, .slice f q.2.length d), (17, iv q.1), (18, iv H), (150, .bool (decide (H < 0)))] T (W_nil (N_then ?_))))))))
 rcases gx_bif hm with ⟨bz, hm⟩ | ⟨bz, hm⟩
 ·refine gT bz (G_seq (G_region (wR 1 [(6, .bool false)] T (W_nil (N_then (G_ret (N_then_ret ?_)))))))
  obtain rfl := Option.some.inj hm
  exact N_ret [.bool false] (rC RVs_nil) (⟨rfl, bd.pk []⟩)
 refine gF bz (G_skip (N_then (G_seq (G_region (wR 2 [(17, iv q.1), (18, iv H), (151, .slice f q.2.length d), (152, iv H)] T ?_)))))
 obtain ⟨an, fm, hm⟩ := gx_bind hm
 refine wC 26 #[.slice f q.2.length d, iv H] ((c_l_heldBalloonS T q.2 f d (c4.rd bd 1 (by kernel_rfl) 2 (by kernel_rfl)) H fm).mono ?_)
 rintro e_ N ⟨rfl, ec⟩
 have be := bd.call0 ec
 refine ⟨_, rfl, ?_⟩
 refine wR 1 [(17, iv q.1), (18, iv an)] N (W_nil (N_then (G_seq (G_seq (G_region (wR 2 [(17, iv q.1), (18, iv an), (155, .bool (decide (an < 0)))] N (W_nil (N_then ?_))))))))
 rcases gx_bif hm with ⟨b0, hm⟩ | ⟨b0, hm⟩
 ·refine gT b0 (G_seq (G_region (wR 1 [(6, .bool false)] N (W_nil (N_then (G_ret (N_then_ret ?_)))))))
  obtain rfl := Option.some.inj hm
  exact N_ret [.bool false] (rC RVs_nil) (⟨rfl, be.pk []⟩)
 refine gF b0 (G_skip (N_then (G_seq (G_seq (G_region (wR 3 [(158, .bool (an != q.1))] N (W_nil (N_then ?_))))))))
 rcases gx_bif hm with ⟨b1, hm⟩ | ⟨b1, hm⟩
 ·refine gT b1 (G_seq (G_region (wR 1 [(6, .bool false)] N (W_nil (N_then (G_ret (N_then_ret ?_)))))))
  obtain rfl := Option.some.inj hm
  exact N_ret [.bool false] (rC RVs_nil) (⟨rfl, be.pk []⟩)
 refine gF b1 (G_skip (N_then (G_seq (G_region (wR 1 [(6, .bool true)] N (W_nil (N_then (G_ret ?_))))))))
 obtain rfl := Option.some.inj hm
 exact N_ret [.bool true] (rC RVs_nil) (⟨rfl, be.pk []⟩)
theorem c_s_Inflate (w : World) (f : List Int) (h : Option Addr) (g : Nat) (O : rdS Gx.encI w f h g) (b : List Balloon) (d : Option Addr) (c : Nat) (y : rdD deepBalloon w b d c) (k : Int) {r : (List Int) × (List Balloon) × Bool} (hm : M.s_Inflate f b k = some r) :
  Calls Try.prog 34 #[.slice h f.length g, .slice d b.length c, iv k] w fun e w' => ∃ (R : Option Addr) (L : Nat) (T : Seg), ∃ (S : Option Addr) (N : Nat) (U : Seg) (V : Seg), e = .returned (.tuple #[.slice R r.1.length L, .slice S r.2.1.length N, .bool r.2.2]) ∧ ownS Gx.encI r.1 R L T ∧ ownD deepBalloon r.2.1 S N U V ∧ Mem [] w w' [T, U, V] := by
 unfold M.s_Inflate at hm
 refine cE Try.func34 ?_
 have M0 := Mem.refl [] w
 refine G_seq (G_region (wR 3 [(0, .slice h f.length g), (1, .slice d b.length c), (2, iv k)] w (W_nil (N_then (G_seq (G_region (wR 2 [(0, .slice h f.length g), (1, .slice d b.length c), (13, .slice d b.length c), (14, iv k)] w ?_)))))))
 obtain ⟨i, ap, hm⟩ := gx_bind hm
 refine wC 56 #[.slice d b.length c, iv k] ((c_s_l18Find w b d c (y.mem0 M0) k ap).mono ?_)
 rintro e_ G ⟨rfl, Y⟩
 have u := M0.call0 Y
 refine ⟨_, rfl, ?_⟩
 refine wR 1 [(0, .slice h f.length g), (1, .slice d b.length c), (9, iv i)] G (W_nil (N_then (G_seq (G_seq ?_))))
 obtain ⟨au, aj, ai⟩ := gx_bind hm
 refine G_meet (fun a w' => Mem [] w w' [] ∧ Sat Try.f34.ntmps [(0, .slice h f.length g), (1, .slice d b.length c), (9, iv i), (22, .bool au)] a) ?_ ?_
 ·have hm := aj
  refine G_region (wR 2 [(0, .slice h f.length g), (1, .slice d b.length c), (9, iv i), (16, .slice h f.length g), (17, .slice d b.length c)] G ?_)
  obtain ⟨aw, aq, hm⟩ := gx_bind hm
  refine wC 47 #[.slice h f.length g, .slice d b.length c] ((c_s_l18Good G f h g (O.mem0 u) b d c (y.mem0 u) aq).mono ?_)
  rintro e_ H ⟨rfl, Z⟩
  have J := u.call0 Z
  refine ⟨_, rfl, ?_⟩
  refine wR 1 [(0, .slice h f.length g), (1, .slice d b.length c), (9, iv i), (19, .bool aw)] H ?_
  rcases gx_bif hm with ⟨z, hm⟩ | ⟨z, hm⟩
  ·refine wK 19 true z (wR 3 [(0, .slice h f.length g), (1, .slice d b.length c), (9, iv i), (22, .bool (decide (i ≥ 0)))] H (W_nil ?_))
   obtain rfl := Option.some.inj hm
   exact N_meet fun a ha => ⟨J.pk [], ha.s⟩
  refine wK 19 false z (wR 3 [(0, .slice h f.length g), (1, .slice d b.length c), (9, iv i), (22, .bool false)] H (W_nil ?_))
  obtain rfl := Option.some.inj hm
  exact N_meet fun a ha => ⟨J.pk [], ha.s⟩
 intro a4 W ⟨t, ag⟩
 refine N_use ag ?_
 have hm := ai
 refine N_then ?_
 obtain ⟨av, ak, P⟩ := gx_bind hm
 refine G_meet (fun a w' => ∃ (Q : Unit), av = .inl Q ∧ Mem [] w w' [] ∧ Sat Try.f34.ntmps [] a) ?_ ?_
 ·have hm := ak
  rcases gx_bif hm with ⟨A, hm⟩ | ⟨A, hm⟩
  ·refine gT A (G_seq (G_region (wR 3 [(24, .slice h f.length g), (25, .slice d b.length c), (26, iv i)] W ?_)))
   obtain ⟨j, ar, hm⟩ := gx_bind hm
   refine wC 68 #[.slice h f.length g, .slice d b.length c, iv i, iv 1] ((c_s_l18Step W f h g (O.mem0 t) b d c (y.mem0 t) i 1 ar).mono ?_)
   rintro e_ I ⟨o, l, ax, q, m, ay, az, rfl, al, am, aa⟩
   have K := t.call aa
   refine ⟨_, rfl, ?_⟩
   refine wR 7 [(10, .slice o j.1.length l), (11, .slice q j.2.1.length m), (12, .bool j.2.2)] I (W_nil (N_then (G_seq (G_region (wR 1 [(10, .slice o j.1.length l), (11, .slice q j.2.1.length m), (31, .bool j.2.2)] I (W_nil (N_then ?_)))))))
   rcases gx_bif hm with ⟨n, hm⟩ | ⟨n, hm⟩
   ·refine gT n (G_seq (G_region (wR 5 [(6, .slice o j.1.length l), (7, .slice q j.2.1.length m), (8, .bool true)] I (W_nil (N_then (G_ret (N_meet_ret ?_)))))))
    obtain rfl := Option.some.inj hm
    have hm := P
    simp only [Sum.elim_inr] at hm
    refine N_then_ret ?_
    obtain rfl := Option.some.inj hm
    exact N_ret [.slice o j.1.length l, .slice q j.2.1.length m, .bool true] (rC (rC (rC RVs_nil))) (⟨o, l, ax, q, m, ay, az, rfl, (al n), (am n), K.pk [0, 1, 2]⟩)
   refine gF n (G_skip ?_)
   obtain rfl := Option.some.inj hm
   exact N_meet fun a ha => ⟨_, rfl, K.pk [], ha.s⟩
  refine gF A (G_skip ?_)
  obtain rfl := Option.some.inj hm
  exact N_meet fun a ha => ⟨_, rfl, t.pk [], ha.s⟩
 intro a5 a6 ⟨Q, hout_, ab, ah⟩
 refine N_use ah ?_
 subst hout_
 have hm := P
 simp only [Sum.elim_inl] at hm
 refine N_then (G_seq (G_region (wL (E := Gx.encI) ([] : List Int) 0 [] 3 ab ?_)))
 intro B v F X an ac
 have ad : Mem [] w X [F] := ac.pk [0]
 have ae : Mem [] w X [F, []] := ad.regroup (by simp)
 refine W_litD (D := deepBalloon) [] ([] : List Balloon) rfl 0 [] 50 ae (by kernel_rfl) (by kernel_rfl) (by kernel_rfl) (by kernel_rfl) (by kernel_rfl) ownI_nil ?_
 intro C x a0 a3 ao af
 refine wR 3 [(6, .slice B ([] : List Int).length v), (7, .slice C ([] : List Balloon).length x), (8, .bool false)] a3 (W_nil (N_then (G_ret ?_)))
 obtain rfl := Option.some.inj hm
 exact N_ret [.slice B ([] : List Int).length v, .slice C ([] : List Balloon).length x, .bool false] (rC (rC (rC RVs_nil))) (⟨B, v, F, C, x, a0, [], rfl, an, ao, af.pk [0, 2, 1]⟩)
theorem c_slices_Sort_88 (w : World) (b : List Int) (d : Option Addr) (c : Nat) (a : Seg) (g : ownS Gx.encI b d c a) (hA : ∀ q ∈ List.flatten [a], w.heap[q.1]? = some q.2) (hN : (idsOf [a]).Nodup) {r : (List Int)} (hm : M.slices_Sort_88 b = some r) :
  Calls Try.prog 88 #[.slice d b.length c] w fun e w' => ∃ (f : Seg), e = .returned (.tuple #[]) ∧ ownS Gx.encI r d c f ∧ r.length = b.length ∧ Mem (idsOf [a]) w w' [f] := by
 unfold M.slices_Sort_88 at hm
 rcases gx_bif hm with ⟨h, hm⟩ | ⟨h, hm⟩
 ·obtain rfl := Option.some.inj hm
  exact sortI_run Try.slices_Sort_int Try.slices_Sort_int_none w b d c a g hA hN (of_decide_eq_true h)
 cases hm
theorem c_i_inflate__e1 (w : World) (g : List Int) (h : Option Addr) (j : Nat) (t : Seg) (S : ownS Gx.encI g h j t) (N : List Balloon) (d : Option Addr) (Q : Nat) (u : Seg) (v : Seg) (aj : ownD deepBalloon N d Q u v) (c : Int) (hA : ∀ q ∈ List.flatten [t, u, v], w.heap[q.1]? = some q.2) (hN : (idsOf [t, u, v]).Nodup) {r : Bool × (List Int) × (List Balloon)} (hm : M.i_inflate__e1 g N c = some r) :
  Calls Try.prog 70 #[.slice h g.length j, elemP d (c.toNat * 3)] w fun e w' => ∃ (an : Seg), ∃ (ao : Seg) (ap : Seg), e = .returned (.bool r.1) ∧ ownS Gx.encI r.2.1 h j an ∧ r.2.1.length = g.length ∧ ownD deepBalloon r.2.2 d Q ao ap ∧ r.2.2.length = N.length ∧ Mem (idsOf [t, u, v]) w w' [an, ao, ap] := by
 unfold M.i_inflate__e1 at hm
 refine cE Try.func70 ?_
 have M0 := Mem.start' w [t, u, v] hA hN
 obtain ⟨b, b0, hm⟩ := gx_bind hm
 obtain ⟨ci, ae, n, bd⟩ := id aj
 obtain ⟨z, l⟩ := gxIdx_fst ae b0
 refine G_seq (G_region (wR 1 [(0, .slice h g.length j), (1, elemP d (c.toNat * 3))] w (W_nil (N_then (G_seq (G_region (wR 2 [(0, .slice h g.length j), (1, elemP d (c.toNat * 3)), (7, .slice h g.length j), (8, elemP d (c.toNat * 3))] w (wV (elemP d (c.toNat * 3)) w (E_nilE (E := deepBalloon.E) _ (c.toNat * 3) rfl (by kernel_rfl) (n.rd M0 1 (by kernel_rfl)) l) (wV (elemP d (c.toNat * 3 + 0)) w (eF 0 (c.toNat * 3) 0 (n.rd M0 1 (by kernel_rfl)) l) (wV (iv b.Guest) w (eE false 1 0 (c.toNat * 3 + 0) (n.rd M0 1 (by kernel_rfl)) l) ?_))))))))))
 obtain ⟨m, bt, hm⟩ := gx_bind hm
 refine wC 66 #[.slice h g.length j, iv b.Guest] ((c_i_framesOf w g h j (S.rd M0 0 (by kernel_rfl)) b.Guest bt).mono ?_)
 rintro e_ b7 ⟨x, y, J, rfl, ak, au⟩
 have aw := M0.call au
 refine ⟨_, rfl, ?_⟩
 refine wR 1 [(0, .slice h g.length j), (1, elemP d (c.toNat * 3)), (5, .slice x m.length y)] b7 (W_nil (N_then (G_seq (G_seq ?_))))
 obtain ⟨b1, bg, bf⟩ := gx_bind hm
 refine G_meet (fun a w' => Mem (idsOf [t, u, v]) w w' [t, u, v, J] ∧ Sat Try.f70.ntmps [(0, .slice h g.length j), (1, elemP d (c.toNat * 3)), (5, .slice x m.length y), (27, .bool b1)] a) ?_ ?_
 ·have hm := bg
  refine G_quiet (by kernel_rfl) (by kernel_rfl) aw (zR [elemP d (c.toNat * 3)] [(0, .slice h g.length j), (1, elemP d (c.toNat * 3)), (5, .slice x m.length y), (13, elemP d (c.toNat * 3))] (zV (elemP d (c.toNat * 3)) (fun w_ M_ => (E_nilE (E := deepBalloon.E) _ (c.toNat * 3) rfl (by kernel_rfl) (n.rd M_ 1 (by kernel_rfl)) l)) (zV (elemP d (c.toNat * 3 + 2)) (fun w_ M_ => (eF 2 (c.toNat * 3) 2 (n.rd M_ 1 (by kernel_rfl)) l)) (zV (.slice ((z 0).1) b.Gave.length ((z 0).2)) (fun w_ M_ => (eE false 1 2 (c.toNat * 3 + 2) (n.rd M_ 1 (by kernel_rfl)) l)) (zR [iv (b.Gave.length : Int), elemP d (c.toNat * 3)] [(0, .slice h g.length j), (1, elemP d (c.toNat * 3)), (5, .slice x m.length y), (17, iv (b.Gave.length : Int)), (18, elemP d (c.toNat * 3))] (zV (elemP d (c.toNat * 3)) (fun w_ M_ => (E_nilE (E := deepBalloon.E) _ (c.toNat * 3) rfl (by kernel_rfl) (n.rd M_ 1 (by kernel_rfl)) l)) (zV (elemP d (c.toNat * 3 + 1)) (fun w_ M_ => (eF 1 (c.toNat * 3) 1 (n.rd M_ 1 (by kernel_rfl)) l)) (zV (iv b.Goal) (fun w_ M_ => (eE false 1 1 (c.toNat * 3 + 1) (n.rd M_ 1 (by kernel_rfl)) l)) (zR [.bool (decide ((b.Gave.length : Int) ≥ b.Goal)), .bool (decide ((b.Gave.length : Int) ≥ b.Goal))] [(0, .slice h g.length j), (1, elemP d (c.toNat * 3)), (5, .slice x m.length y), (23, .bool (decide ((b.Gave.length : Int) ≥ b.Goal)))] ?_)))))))))
  rcases gx_bif hm with ⟨ab, hm⟩ | ⟨ab, hm⟩
  ·refine zK 23 true ab (zR [undef, undef, undef, .bool true] [(0, .slice h g.length j), (1, elemP d (c.toNat * 3)), (5, .slice x m.length y), (27, .bool true)] (Z_end fun cf ax => ?_))
   obtain rfl := Option.some.inj hm
   exact N_meet fun a ha => ⟨ax.pk [0, 1, 2, 3], ha.s⟩
  refine zK 23 false ab (zR [.slice x m.length y, iv (m.length : Int), .bool (decide ((m.length : Int) < 2)), .bool (decide ((m.length : Int) < 2))] [(0, .slice h g.length j), (1, elemP d (c.toNat * 3)), (5, .slice x m.length y), (27, .bool (decide ((m.length : Int) < 2)))] (Z_end fun cg ay => ?_))
  obtain rfl := Option.some.inj hm
  exact N_meet fun a ha => ⟨ay.pk [0, 1, 2, 3], ha.s⟩
 intro b9 C ⟨G, a9⟩
 refine N_use a9 ?_
 have hm := bf
 refine N_then ?_
 rcases gx_bif hm with ⟨ac, hm⟩ | ⟨ac, hm⟩
 ·refine gT ac (G_seq (G_region (wR 1 [(4, .bool false)] C (W_nil (N_then (G_ret (N_then_ret ?_)))))))
  obtain rfl := Option.some.inj hm
  exact N_ret [.bool false] (rC RVs_nil) (⟨t, u, v, rfl, S, rfl, aj, rfl, G.pk [0, 1, 2]⟩)
 refine gF ac (G_skip (N_then (G_seq (G_region (wR 4 [(0, .slice h g.length j), (1, elemP d (c.toNat * 3)), (28, .slice x m.length y), (31, iv (w64 ((m.length : Int) - 1)))] C ?_)))))
 obtain ⟨o, al, hm⟩ := gx_bind hm
 refine wV (elemP x ((w64 ((m.length : Int) - 1)).toNat * 1)) C (eI (ak.rd G 3 (by kernel_rfl)) rfl al) (wV (iv o) C (eE false 1 0 ((w64 ((m.length : Int) - 1)).toNat * 1) (ak.rd G 3 (by kernel_rfl)) al) (wR 1 [(0, .slice h g.length j), (1, elemP d (c.toNat * 3)), (6, iv o)] C (W_nil (N_then (G_seq (G_region (wR 2 [(1, elemP d (c.toNat * 3)), (6, iv o), (34, .slice h g.length j), (35, iv o)] C ?_)))))))
 obtain ⟨b8, am, hm⟩ := gx_bind hm
 refine wV (elemP h (o.toNat * 1)) C (eI (S.rd G 0 (by kernel_rfl)) rfl am) (wE false 1 o.toNat 0 (o.toNat * 1) b8 0 (iv 0) 0 G S (gxIdx_spec am).2 ?_)
 intro L K bh O
 refine wX 34 (.slice h g.length j) (.slice h (g.set o.toNat 0).length j) (by rw [@List.length_set _ g o.toNat 0]) (W_nil (N_then (G_seq (G_region (wR 2 [(1, elemP d (c.toNat * 3)), (6, iv o), (37, elemP d (c.toNat * 3)), (38, elemP d (c.toNat * 3))] L (wV (elemP d (c.toNat * 3)) L (E_nilE (E := deepBalloon.E) _ (c.toNat * 3) rfl (by kernel_rfl) (n.rd O 1 (by kernel_rfl)) l) (wV (elemP d (c.toNat * 3 + 2)) L (eF 2 (c.toNat * 3) 2 (n.rd O 1 (by kernel_rfl)) l) (wV (.slice ((z 0).1) b.Gave.length ((z 0).2)) L (eE false 1 2 (c.toNat * 3 + 2) (n.rd O 1 (by kernel_rfl)) l) (wR 1 [(1, elemP d (c.toNat * 3)), (37, elemP d (c.toNat * 3)), (41, .slice ((z 0).1) b.Gave.length ((z 0).2)), (42, iv o)] L (wL (E := Gx.encI) [o] 1 [iv o] 3 O ?_))))))))))
 intro ce ca X ch bi az
 obtain ⟨V, b4, W, bv, bb, bq⟩ := bd.lens (gxIdx_spec l).2
 have a0 := az.cut 2 (sa := V) (sb := b4) (sc := W) bv (by kernel_rfl)
 obtain ⟨b6, b2, bx, bj, cc⟩ := bb
 have ai := a0.cut 5 (sa := []) (sb := b6) (sc := b2) bx (by kernel_rfl)
 obtain ⟨f, ba, hm⟩ := gx_bind hm
 refine wA 8 [iv 0] 7 ai bj (bi.rd ai 4 (by kernel_rfl)) ba ?_
 intro U R ag ar bk Z
 refine wV (elemP d (c.toNat * 3)) ar (E_nilE (E := deepBalloon.E) _ (c.toNat * 3) rfl (by kernel_rfl) (n.rd Z 1 (by kernel_rfl)) l) (wV (elemP d (c.toNat * 3 + 2)) ar (eF 2 (c.toNat * 3) 2 (n.rd Z 1 (by kernel_rfl)) l) (wE false 1 c.toNat 2 (c.toNat * 3 + 2) (b, z) ((⟨b.Guest, b.Goal, f⟩ : Balloon), (plOf [(U, R)])) (.slice U f.length R) 1 Z n (gxIdx_spec l).2 ?_))
 intro D B bl a3
 have a4 : Mem (idsOf [t, u, v]) w D [K, B, J, X, [], V, ag, W] := a3.pk [0, 1, 3, 4, 5, 2, 7, 6]
 have P : Mem (idsOf [t, u, v]) w D [K, B, J, X, [], (V ++ ((ag ++ []) ++ W))] := a4.regroup (by simp)
 have bm : ownD deepBalloon (N.set c.toNat (⟨b.Guest, b.Goal, f⟩ : Balloon)) d Q B (V ++ ((ag ++ []) ++ W)) := ⟨_, set_fst ae c.toNat ((⟨b.Guest, b.Goal, f⟩ : Balloon), (plOf [(U, R)])), bl, bq ((⟨b.Guest, b.Goal, f⟩ : Balloon), (plOf [(U, R)])) _ (ownI_cons (i := ⟨Int, Gx.encI, _, _, _⟩) bk ownI_nil)⟩
 have bs := gxIdx_put (⟨b.Guest, b.Goal, f⟩ : Balloon) (gxIdx_down ae l)
 refine W_nil (N_then (G_seq (G_region (wR 1 [(47, elemP d (c.toNat * 3))] D ?_))))
 obtain ⟨cj, af, T, be⟩ := id bm
 obtain ⟨k, F⟩ := gxIdx_fst af bs
 refine wV (elemP d (c.toNat * 3)) D (E_nilE (E := deepBalloon.E) _ (c.toNat * 3) rfl (by kernel_rfl) (T.rd P 1 (by kernel_rfl)) F) (wV (elemP d (c.toNat * 3 + 2)) D (eF 2 (c.toNat * 3) 2 (T.rd P 1 (by kernel_rfl)) F) (wV (.slice ((k 0).1) ((⟨b.Guest, b.Goal, f⟩ : Balloon).Gave).length ((k 0).2)) D (eE false 1 2 (c.toNat * 3 + 2) (T.rd P 1 (by kernel_rfl)) F) ?_))
 obtain ⟨H, b5, I, bw, bc, br⟩ := be.lens (gxIdx_spec F).2
 have a5 := P.cut 5 (sa := H) (sb := b5) (sc := I) bw (by kernel_rfl)
 obtain ⟨aq, b3, bz, bn, cd⟩ := bc
 have aa := a5.cut 6 (sa := []) (sb := aq) (sc := b3) bz (by kernel_rfl)
 obtain ⟨A, bu, hm⟩ := gx_bind hm
 refine wC 88 #[.slice ((k 0).1) ((⟨b.Guest, b.Goal, f⟩ : Balloon).Gave).length ((k 0).2)] ((c_slices_Sort_88 D ((⟨b.Guest, b.Goal, f⟩ : Balloon).Gave) ((k 0).1) ((k 0).2) aq bn (aa.hasPick [8]) (aa.nodupPick [8] (by kernel_rfl)) bu).mono ?_)
 rintro e_ ah ⟨Y, rfl, bo, ad, av⟩
 have a6 := aa.callF' [8] [0, 1, 2, 3, 4, 5, 6, 7, 9] (by kernel_rfl) av
 refine ⟨_, rfl, ?_⟩
 refine wX 50 (.slice ((k 0).1) ((⟨b.Guest, b.Goal, f⟩ : Balloon).Gave).length ((k 0).2)) (.slice ((k 0).1) A.length ((k 0).2)) (by first | rw [ad] | rw [ad]) ?_
 have a7 : Mem (idsOf [t, u, v]) w ah [K, B, J, X, [], [], H, Y, I] := a6.pk [0, 1, 2, 3, 4, 6, 5, 9, 7]
 have a8 : Mem (idsOf [t, u, v]) w ah [K, B, J, X, [], [], (H ++ ((Y ++ []) ++ I))] := a7.regroup (by simp)
 have bp : ownD deepBalloon ((N.set c.toNat (⟨b.Guest, b.Goal, f⟩ : Balloon)).set c.toNat (⟨(⟨b.Guest, b.Goal, f⟩ : Balloon).Guest, (⟨b.Guest, b.Goal, f⟩ : Balloon).Goal, A⟩ : Balloon)) d Q B (H ++ ((Y ++ []) ++ I)) := ⟨_, set_fst af c.toNat ((⟨(⟨b.Guest, b.Goal, f⟩ : Balloon).Guest, (⟨b.Guest, b.Goal, f⟩ : Balloon).Goal, A⟩ : Balloon), k), (T.setSame (z' := ((⟨(⟨b.Guest, b.Goal, f⟩ : Balloon).Guest, (⟨b.Guest, b.Goal, f⟩ : Balloon).Goal, A⟩ : Balloon), k)) (gxIdx_spec F).2 (by show ([iv ((⟨b.Guest, b.Goal, f⟩ : Balloon).Guest), iv ((⟨b.Guest, b.Goal, f⟩ : Balloon).Goal), .slice ((k 0).1) A.length ((k 0).2)] : List Value) = [iv ((⟨b.Guest, b.Goal, f⟩ : Balloon).Guest), iv ((⟨b.Guest, b.Goal, f⟩ : Balloon).Goal), .slice ((k 0).1) ((⟨b.Guest, b.Goal, f⟩ : Balloon).Gave).length ((k 0).2)]; rw [ad])), br ((⟨(⟨b.Guest, b.Goal, f⟩ : Balloon).Guest, (⟨b.Guest, b.Goal, f⟩ : Balloon).Goal, A⟩ : Balloon), k) _ (ownI_cons (i := ⟨Int, Gx.encI, _, _, _⟩) bo ownI_nil)⟩
 have cb := gxIdx_put (⟨(⟨b.Guest, b.Goal, f⟩ : Balloon).Guest, (⟨b.Guest, b.Goal, f⟩ : Balloon).Goal, A⟩ : Balloon) (gxIdx_down af F)
 refine W_nil (N_then (G_seq (G_region (wR 1 [(4, .bool true)] ah (W_nil (N_then (G_ret ?_)))))))
 obtain rfl := Option.some.inj hm
 exact N_ret [.bool true] (rC RVs_nil) (⟨K, B, (H ++ ((Y ++ []) ++ I)), rfl, bh, (List.length_set.trans rfl), bp, (List.length_set.trans (List.length_set.trans rfl)), a8.pk [0, 1, 6]⟩)
theorem c_i_Inflate (w : World) (h : List Int) (k : Option Addr) (i : Nat) (H : rdS Gx.encI w h k i) (d : List Balloon) (g : Option Addr) (f : Nat) (I : rdD deepBalloon w d g f) (u : Int) {r : (List Int) × (List Balloon) × Bool} (hm : M.i_Inflate h d u = some r) :
  Calls Try.prog 35 #[.slice k h.length i, .slice g d.length f, iv u] w fun e w' => ∃ (L : Option Addr) (F : Nat) (O : Seg), ∃ (N : Option Addr) (G : Nat) (P : Seg) (Q : Seg), e = .returned (.tuple #[.slice L r.1.length F, .slice N r.2.1.length G, .bool r.2.2]) ∧ ownS Gx.encI r.1 L F O ∧ ownD deepBalloon r.2.1 N G P Q ∧ Mem [] w w' [O, P, Q] := by
 unfold M.i_Inflate at hm
 refine cE Try.func35 ?_
 have M0 := Mem.refl [] w
 refine G_seq (G_region (wR 3 [(0, .slice k h.length i), (1, .slice g d.length f), (2, iv u)] w (W_nil (N_then (G_seq (G_region (wR 3 [(0, .slice k h.length i), (1, .slice g d.length f), (14, .slice k h.length i), (15, .slice g d.length f), (16, iv u)] w ?_)))))))
 obtain ⟨l, aa, hm⟩ := gx_bind hm
 refine wC 59 #[.slice k h.length i, .slice g d.length f, iv u] ((c_i_balloonOf w h k i (H.mem0 M0) d g f (I.mem0 M0) u aa).mono ?_)
 rintro e_ v ⟨rfl, S⟩
 have z := M0.call0 S
 refine ⟨_, rfl, ?_⟩
 refine wR 5 [(0, .slice k h.length i), (1, .slice g d.length f), (9, iv l.1), (10, .bool l.2)] v (W_nil (N_then (G_seq (G_seq (G_region (wR 2 [(0, .slice k h.length i), (1, .slice g d.length f), (9, iv l.1), (21, .bool (!l.2))] v (W_nil (N_then ?_))))))))
 rcases gx_bif hm with ⟨A, hm⟩ | ⟨A, hm⟩
 ·refine gT A (G_seq (G_region (wR 3 [(6, .slice none 0 0), (7, .slice none 0 0), (8, .bool false)] v (W_nil (N_then (G_ret (N_then_ret ?_)))))))
  obtain rfl := Option.some.inj hm
  exact N_ret [.slice none 0 0, .slice none 0 0, .bool false] (rC (rC (rC RVs_nil))) (⟨none, 0, [], none, 0, [], [], rfl, ownS_nil, ownD_nil, z.pk [100000, 100001, 100002]⟩)
 refine gF A (G_skip (N_then (G_seq (G_region (wR 1 [(1, .slice g d.length f), (9, iv l.1), (22, .slice k h.length i)] v ?_)))))
 obtain ⟨q, ab, hm⟩ := gx_bind hm
 refine wC 62 #[.slice k h.length i] ((c_i_copyInts v h k i (H.mem0 z) ab).mono ?_)
 rintro e_ R ⟨b, a, ag, rfl, X, T⟩
 have D := z.call T
 refine ⟨_, rfl, ?_⟩
 refine wR 1 [(9, iv l.1), (23, .slice b q.length a), (24, .slice g d.length f)] R ?_
 obtain ⟨t, ac, hm⟩ := gx_bind hm
 refine wC 60 #[.slice g d.length f] ((c_i_newBalloons R d g f (I.mem0 D) ac).mono ?_)
 rintro e_ y ⟨c, j, ah, ai, rfl, J, U⟩
 have x := D.call U
 refine ⟨_, rfl, ?_⟩
 refine wR 2 [(9, iv l.1), (11, .slice b q.length a), (12, .slice c t.length j)] y (W_nil (N_then (G_seq (G_seq (G_region (wR 3 [(11, .slice b q.length a), (12, .slice c t.length j), (26, .slice b q.length a), (27, .slice c t.length j), (28, iv l.1)] y ?_))))))
 obtain ⟨ao, af, hm⟩ := gx_bind hm
 obtain ⟨ap, K, ad, an⟩ := id J
 obtain ⟨am, W⟩ := gxIdx_fst K af
 refine wV (elemP c (l.1.toNat * 3)) y (eI (ad.rd x 1 (by kernel_rfl)) (len_fst K) W) ?_
 obtain ⟨m, ae, hm⟩ := gx_bind hm
 refine wC 70 #[.slice b q.length a, elemP c (l.1.toNat * 3)] ((c_i_inflate__e1 y q b a ag X t c j ah ai J l.1 (x.hasPick [0, 1, 2]) (x.nodupPick [0, 1, 2] (by kernel_rfl)) ae).mono ?_)
 rintro e_ C ⟨aj, ak, al, rfl, Y, n, Z, o, V⟩
 have E := x.callF' [0, 1, 2] [] (by kernel_rfl) V
 refine ⟨_, rfl, ?_⟩
 refine wX 11 (.slice b q.length a) (.slice b m.2.1.length a) (by first | rw [n, o] | rw [n] | rw [o]) (wX 12 (.slice c t.length j) (.slice c m.2.2.length j) (by first | rw [n, o] | rw [n] | rw [o]) (wX 26 (.slice b q.length a) (.slice b m.2.1.length a) (by first | rw [n, o] | rw [n] | rw [o]) (wX 27 (.slice c t.length j) (.slice c m.2.2.length j) (by first | rw [n, o] | rw [n] | rw [o]) (wR 1 [(11, .slice b m.2.1.length a), (12, .slice c m.2.2.length j), (31, .bool (!m.1))] C (W_nil (N_then ?_))))))
 rcases gx_bif hm with ⟨B, hm⟩ | ⟨B, hm⟩
 ·refine gT B (G_seq (G_region (wR 3 [(6, .slice none 0 0), (7, .slice none 0 0), (8, .bool false)] C (W_nil (N_then (G_ret (N_then_ret ?_)))))))
  obtain rfl := Option.some.inj hm
  exact N_ret [.slice none 0 0, .slice none 0 0, .bool false] (rC (rC (rC RVs_nil))) (⟨none, 0, [], none, 0, [], [], rfl, ownS_nil, ownD_nil, E.pk [100000, 100001, 100002]⟩)
 refine gF B (G_skip (N_then (G_seq (G_region (wR 5 [(6, .slice b m.2.1.length a), (7, .slice c m.2.2.length j), (8, .bool true)] C (W_nil (N_then (G_ret ?_))))))))
 obtain rfl := Option.some.inj hm
 exact N_ret [.slice b m.2.1.length a, .slice c m.2.2.length j, .bool true] (rC (rC (rC RVs_nil))) (⟨b, a, aj, c, j, ak, al, rfl, Y, Z, E.pk [0, 1, 2]⟩)
end Go.Proofs.Ytlfligjpmodefaa
