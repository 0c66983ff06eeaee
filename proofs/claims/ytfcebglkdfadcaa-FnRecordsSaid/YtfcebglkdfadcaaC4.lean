/- The walks, printed by program: whenever the model gives r, the call returns r. Part 4. -/
import Derived.Test.YtfcebglkdfadcaaM
import Derived.Test.YtfcebglkdfadcaaGxZ
import Derived.Test.YtfcebglkdfadcaaProg
import Derived.Test.YtfcebglkdfadcaaSh
import Derived.Test.YtfcebglkdfadcaaC3
set_option linter.unusedVariables false
set_option maxRecDepth 100000
set_option maxHeartbeats 4000000
namespace Go.Proofs.Ytfcebglkdfadcaa
open Go.Gx
theorem c_l_FnExactAddEvent (w : World) (k : List Event) (m : Option Addr) (l : Nat) (U : rdS encEvent w k m l) (c : Event) {r : Bool} (hm : M.l_FnExactAddEvent k c = some r) :
  Calls Try.prog 9 #[.slice m k.length l, .agg #[iv c.Tick, iv c.Guest, .string c.Kind, iv c.Value]] w fun e w' => e = .returned (.bool r) ∧ Mem [] w w' [] := by
 unfold M.l_FnExactAddEvent at hm
 refine cE Try.func9 ?_
 have M0 := Mem.refl [] w
 refine G_seq (G_region (wN (.cells ⟨[iv c.Tick, iv c.Guest, .string c.Kind, iv c.Value]⟩ 23 (0, 0)) M0 ?_))
 intro t ai br
 refine wR 1 [(0, .slice m k.length l), (3, pB t 0)] ai (W_nil (N_then (G_seq (G_region (wR 1 [(0, .slice m k.length l), (3, pB t 0), (5, iv 1048576)] ai (W_nil (N_then (G_seq (G_region (wR 2 [(0, .slice m k.length l), (3, pB t 0), (5, iv 1048576), (16, .slice m k.length l), (17, iv 1048576)] ai ?_))))))))))
 obtain ⟨O, dm, hm⟩ := gx_bind hm
 refine wC 17 #[.slice m k.length l, iv 1048576] ((c_l_szEventS ai k m l (U.mem0 br) 1048576 dm).mono ?_)
 rintro e_ S ⟨rfl, ce⟩
 have ap := br.call0 ce
 refine ⟨_, rfl, ?_⟩
 refine wR 1 [(0, .slice m k.length l), (3, pB t 0), (5, iv O)] S (W_nil (N_then (G_seq (G_seq (G_region (wR 2 [(0, .slice m k.length l), (3, pB t 0), (5, iv O), (20, .bool (decide (O < 0)))] S (W_nil (N_then ?_))))))))
 rcases gx_bif hm with ⟨az, hm⟩ | ⟨az, hm⟩
 ·refine gT az (G_seq (G_region (wR 1 [(4, .bool true)] S (W_nil (N_then (G_ret (N_then_ret ?_)))))))
  obtain rfl := Option.some.inj hm
  exact N_ret [.bool true] (rC RVs_nil) (⟨rfl, ap.pk []⟩)
 refine gF az (G_skip (N_then (G_seq (G_region (wV (.agg #[iv c.Tick, iv c.Guest, .string c.Kind, iv c.Value]) S (eL true 4 0 (ap.blk 0 rfl)) (wR 1 [(0, .slice m k.length l), (3, pB t 0), (5, iv O), (21, .agg #[iv c.Tick, iv c.Guest, .string c.Kind, iv c.Value]), (22, iv O)] S ?_))))))
 obtain ⟨bi, dn, hm⟩ := gx_bind hm
 refine wC 13 #[.agg #[iv c.Tick, iv c.Guest, .string c.Kind, iv c.Value], iv O] ((c_l_szEvent S c O dn).mono ?_)
 rintro e_ bl ⟨rfl, cf⟩
 have bs := ap.call0 cf
 refine ⟨_, rfl, ?_⟩
 refine wR 1 [(0, .slice m k.length l), (3, pB t 0), (5, iv bi)] bl (W_nil (N_then (G_seq (G_seq (G_region (wR 2 [(0, .slice m k.length l), (3, pB t 0), (25, .bool (decide (bi < 0)))] bl (W_nil (N_then ?_))))))))
 rcases gx_bif hm with ⟨a0, hm⟩ | ⟨a0, hm⟩
 ·refine gT a0 (G_seq (G_region (wR 1 [(4, .bool true)] bl (W_nil (N_then (G_ret (N_then_ret ?_)))))))
  obtain rfl := Option.some.inj hm
  exact N_ret [.bool true] (rC RVs_nil) (⟨rfl, bs.pk []⟩)
 refine gF a0 (G_skip (N_then (G_seq ?_)))
 obtain ⟨P, dp, hm⟩ := gx_bind hm
 obtain ⟨D, dq, hm⟩ := gx_bind hm
 obtain ⟨b, dr, hm⟩ := gx_bind hm
 refine G_sub [(0, .slice m k.length l), (3, pB t 0), (25, .bool (decide (bi < 0)))] (by kernel_rfl) (G_dagL 9 [[], [0], [], [2], [1, 3], [], [5], [5], [6]] [[], [], [], [], [], [], [], [], []] [[], [], [], [], [1], [], [], [], []] [[], [], [], [], [], [4], [4], [4], [4]] [[], [], [], [], [], [4], [4], [], [4]] [[], [], [], [], [], [], [], [], []] (fun _ => []) (fun i => ([fun f v s => v = (.slice m k.length l : Value) ∧ s = [], fun f v s => ∃ (I : Option Addr) (G : Nat), v = (.slice I P.length G : Value) ∧ ownS encEvent P I G s, fun f v s => v = (.agg #[iv c.Tick, iv c.Guest, .string c.Kind, iv c.Value] : Value) ∧ s = [], fun f v s => v = (.agg #[iv D.Tick, iv D.Guest, .string D.Kind, iv D.Value] : Value) ∧ s = [], fun f v s => ∃ (g : Option Addr) (d : Nat), v = (.tuple #[.slice g b.1.length d, .bool b.2] : Value) ∧ ownS encEvent b.1 g d s, fun f v s => v = (.tuple #[(atPath (f 4) [0]), .bool b.2] : Value) ∧ s = [], fun f v s => v = ((atPath (f 4) [0]) : Value) ∧ s = [], fun f v s => v = (.bool b.2 : Value) ∧ s = [], fun f v s => v = ((atPath (f 4) [0]) : Value) ∧ s = []] : List ((Nat → Value) → Value → Seg → Prop)).getD i (fun _ _ _ => False)) (fun j f v => ∃ s, (fun i => ([fun f v s => v = (.slice m k.length l : Value) ∧ s = [], fun f v s => ∃ (I : Option Addr) (G : Nat), v = (.slice I P.length G : Value) ∧ ownS encEvent P I G s, fun f v s => v = (.agg #[iv c.Tick, iv c.Guest, .string c.Kind, iv c.Value] : Value) ∧ s = [], fun f v s => v = (.agg #[iv D.Tick, iv D.Guest, .string D.Kind, iv D.Value] : Value) ∧ s = [], fun f v s => ∃ (g : Option Addr) (d : Nat), v = (.tuple #[.slice g b.1.length d, .bool b.2] : Value) ∧ ownS encEvent b.1 g d s, fun f v s => v = (.tuple #[(atPath (f 4) [0]), .bool b.2] : Value) ∧ s = [], fun f v s => v = ((atPath (f 4) [0]) : Value) ∧ s = [], fun f v s => v = (.bool b.2 : Value) ∧ s = [], fun f v s => v = ((atPath (f 4) [0]) : Value) ∧ s = []] : List ((Nat → Value) → Value → Seg → Prop)).getD i (fun _ _ _ => False)) j f v s) [] [1, 4, 7, 8] [1, 4] (fun _ _ _ s h => ⟨s, h⟩) (by kernel_rfl) (by kernel_rfl) (bs.preNil 9) (by kernel_rfl) (by kernel_rfl) (by kernel_rfl) (by kernel_rfl) (allOb_cons ?_ (allOb_cons ?_ (allOb_cons ?_ (allOb_cons ?_ (allOb_cons ?_ (allOb_cons ?_ (allOb_cons ?_ (allOb_cons ?_ (allOb_cons ?_ allOb_nil))))))))) ?_)
 ·intro F L
  intro R ei cy
  exact wR 1 [(27, .slice m k.length l)] ei (W_nil (oE (.slice m k.length l) [] ⟨by kernel_rfl, rfl⟩ cy))
 ·intro F L
  intro v0_ hb0_
  obtain ⟨rfl, _⟩ := hb0_
  intro R ej bt
  refine wC 19 #[.slice m k.length l] ((c_l_toEventS ej k m l (U.mem0 bt) dp).mono ?_)
  rintro e_ e9 ⟨I, G, ee, rfl, af, cg⟩
  refine ⟨_, rfl, ?_⟩
  exact W_nil (oE (.slice I P.length G) ee ⟨I, G, rfl, af⟩ (Mem.callMid bt cg))
 ·intro F L
  intro R ek bu
  exact wV (.agg #[iv c.Tick, iv c.Guest, .string c.Kind, iv c.Value]) ek (eL true 4 0 (bu.blk 0 rfl)) (W_nil (oE (.agg #[iv c.Tick, iv c.Guest, .string c.Kind, iv c.Value]) [] ⟨by kernel_rfl, rfl⟩ bu))
 ·intro F L
  intro v2_ hb2_
  obtain ⟨rfl, _⟩ := hb2_
  intro R el cz
  refine wC 15 #[.agg #[iv c.Tick, iv c.Guest, .string c.Kind, iv c.Value]] ((c_l_toEvent el c dq).mono ?_)
  rintro e_ fa ⟨rfl, ch⟩
  refine ⟨_, rfl, ?_⟩
  exact W_nil (oE (.agg #[iv D.Tick, iv D.Guest, .string D.Kind, iv D.Value]) [] ⟨rfl, rfl⟩ (cz.call0 ch))
 ·intro F L
  intro v1_ hb1_
  obtain ⟨I, G, rfl, af⟩ := hb1_
  intro v3_ hb3_
  obtain ⟨rfl, _⟩ := hb3_
  intro R em bv
  refine wC 32 #[.slice I P.length G, .agg #[iv D.Tick, iv D.Guest, .string D.Kind, iv D.Value]] ((c_s_AddEvent em P I G (af.rd bv 2 (by kernel_rfl)) D dr).mono ?_)
  rintro e_ fb ⟨g, d, ef, rfl, V, ci⟩
  refine ⟨_, rfl, ?_⟩
  exact W_nil (oE (.tuple #[.slice g b.1.length d, .bool b.2]) ef ⟨g, d, rfl, V⟩ (Mem.callMid bv ci))
 ·intro F L
  intro v4_ hb4_
  obtain ⟨_, g, d, rfl, _⟩ := hb4_
  intro R en c0
  exact wR 1 [(26, .tuple #[.slice g b.1.length d, .bool b.2])] en (W_nil (oE (.tuple #[.slice g b.1.length d, .bool b.2]) [] ⟨by kernel_rfl, rfl⟩ c0))
 ·intro F L
  intro v4_ hb4_
  obtain ⟨_, g, d, rfl, _⟩ := hb4_
  intro v5_ hb5_
  obtain ⟨hv5_, _⟩ := hb5_
  obtain rfl : v5_ = (.tuple #[.slice g b.1.length d, .bool b.2] : Value) := hv5_.trans (by kernel_rfl)
  intro R eo c1
  exact wR 1 [(32, .slice g b.1.length d)] eo (W_nil (oE (.slice g b.1.length d) [] ⟨by kernel_rfl, rfl⟩ c1))
 ·intro F L
  intro v4_ hb4_
  obtain ⟨_, g, d, rfl, _⟩ := hb4_
  intro v5_ hb5_
  obtain ⟨hv5_, _⟩ := hb5_
  obtain rfl : v5_ = (.tuple #[.slice g b.1.length d, .bool b.2] : Value) := hv5_.trans (by kernel_rfl)
  intro R ep c2
  exact wR 1 [(33, .bool b.2)] ep (W_nil (oE (.bool b.2) [] ⟨by kernel_rfl, rfl⟩ c2))
 ·intro F L
  intro v4_ hb4_
  obtain ⟨_, g, d, rfl, _⟩ := hb4_
  intro v6_ hb6_
  obtain ⟨hv6_, _⟩ := hb6_
  obtain rfl : v6_ = (.slice g b.1.length d : Value) := hv6_.trans (by kernel_rfl)
  intro R er c3
  exact wR 1 [(6, .slice g b.1.length d)] er (W_nil (oE (.slice g b.1.length d) [] ⟨by kernel_rfl, rfl⟩ c3))
 intro F L
 intro v1_ hb1_
 obtain ⟨I, G, rfl, af⟩ := hb1_
 intro v4_ hb4_
 obtain ⟨g, d, rfl, V⟩ := hb4_
 intro v7_ hb7_
 obtain ⟨rfl, _⟩ := hb7_
 intro v8_ hb8_
 obtain ⟨hv8_, _⟩ := hb8_
 obtain rfl : v8_ = (.slice g b.1.length d : Value) := hv8_.trans (by kernel_rfl)
 intro aj c4
 have bw : Mem [] w aj [[(t, .cells ⟨[iv c.Tick, iv c.Guest, .string c.Kind, iv c.Value]⟩ 23 (0, 0))], (F 1), (F 4)] := c4
 refine wR 1 [(0, .slice m k.length l), (3, pB t 0), (6, .slice g b.1.length d), (7, .bool b.2)] aj (W_nil (N_then (G_seq (G_region (wR 1 [(0, .slice m k.length l), (3, pB t 0), (6, .slice g b.1.length d), (7, .bool b.2), (34, .slice m k.length l)] aj ?_)))))
 obtain ⟨C, ds, hm⟩ := gx_bind hm
 refine wC 19 #[.slice m k.length l] ((c_l_toEventS aj k m l (U.mem0 bw) ds).mono ?_)
 rintro e_ ak ⟨B, A, cc, rfl, bf, cj⟩
 have bx := bw.call cj
 refine ⟨_, rfl, ?_⟩
 refine wR 1 [(0, .slice m k.length l), (3, pB t 0), (6, .slice g b.1.length d), (7, .bool b.2), (8, .slice B C.length A)] ak (W_nil (N_then (G_seq (G_region (wR 1 [(0, .slice m k.length l), (3, pB t 0), (6, .slice g b.1.length d), (7, .bool b.2), (8, .slice B C.length A), (37, .slice B C.length A)] ak (wV (.agg #[iv c.Tick, iv c.Guest, .string c.Kind, iv c.Value]) ak (eL true 4 0 (bx.blk 0 rfl)) ?_))))))
 obtain ⟨W, dt, hm⟩ := gx_bind hm
 refine wC 15 #[.agg #[iv c.Tick, iv c.Guest, .string c.Kind, iv c.Value]] ((c_l_toEvent ak c dt).mono ?_)
 rintro e_ es ⟨rfl, ck⟩
 have bz := bx.call0 ck
 refine ⟨_, rfl, ?_⟩
 obtain ⟨q, du, hm⟩ := gx_bind hm
 refine wC 33 #[.slice B C.length A, .agg #[iv W.Tick, iv W.Guest, .string W.Kind, iv W.Value]] ((c_i_AddEvent es C B A (bf.rd bz 3 (by kernel_rfl)) W du).mono ?_)
 rintro e_ bm ⟨o, n, bk, rfl, bg, cl⟩
 have aq := bz.call cl
 refine ⟨_, rfl, ?_⟩
 refine wR 5 [(0, .slice m k.length l), (3, pB t 0), (6, .slice g b.1.length d), (7, .bool b.2), (8, .slice B C.length A), (9, .slice o q.1.length n), (10, .bool q.2)] bm (W_nil (N_then (G_seq (G_seq ?_))))
 obtain ⟨d7, di, df⟩ := gx_bind hm
 refine G_meet (fun a w' => Mem [] w w' [[(t, .cells ⟨[iv c.Tick, iv c.Guest, .string c.Kind, iv c.Value]⟩ 23 (0, 0))], (F 4), cc, bk] ∧ Sat Try.f9.ntmps [(0, .slice m k.length l), (3, pB t 0), (6, .slice g b.1.length d), (7, .bool b.2), (8, .slice B C.length A), (9, .slice o q.1.length n), (10, .bool q.2), (51, .bool d7)] a) ?_ ?_
 ·have hm := di
  refine G_region (wR 2 [(0, .slice m k.length l), (3, pB t 0), (6, .slice g b.1.length d), (7, .bool b.2), (8, .slice B C.length A), (9, .slice o q.1.length n), (10, .bool q.2), (43, .slice o q.1.length n), (44, .slice g b.1.length d)] bm ?_)
  obtain ⟨ea, dv, hm⟩ := gx_bind hm
  refine wC 21 #[.slice o q.1.length n, .slice g b.1.length d] ((c_l_eqEventS bm q.1 o n (bg.rd aq 4 (by kernel_rfl)) b.1 g d (V.rd aq 2 (by kernel_rfl)) dv).mono ?_)
  rintro e_ bn ⟨rfl, cm⟩
  have b0 := aq.call0 cm
  refine ⟨_, rfl, ?_⟩
  refine wR 2 [(0, .slice m k.length l), (3, pB t 0), (6, .slice g b.1.length d), (7, .bool b.2), (8, .slice B C.length A), (9, .slice o q.1.length n), (10, .bool q.2), (47, .bool (!ea))] bn ?_
  rcases gx_bif hm with ⟨a3, hm⟩ | ⟨a3, hm⟩
  ·refine wK 47 true a3 (wR 4 [(0, .slice m k.length l), (3, pB t 0), (6, .slice g b.1.length d), (7, .bool b.2), (8, .slice B C.length A), (9, .slice o q.1.length n), (10, .bool q.2), (51, .bool true)] bn (W_nil ?_))
   obtain rfl := Option.some.inj hm
   exact N_meet fun a ha => ⟨b0.pk [0, 2, 3, 4], ha.s⟩
  refine wK 47 false a3 (wR 4 [(0, .slice m k.length l), (3, pB t 0), (6, .slice g b.1.length d), (7, .bool b.2), (8, .slice B C.length A), (9, .slice o q.1.length n), (10, .bool q.2), (51, .bool (!(q.2 == b.2)))] bn (W_nil ?_))
  obtain rfl := Option.some.inj hm
  exact N_meet fun a ha => ⟨b0.pk [0, 2, 3, 4], ha.s⟩
 intro e3 bo ⟨ar, dc⟩
 refine N_use dc ?_
 have hm := df
 refine N_then ?_
 rcases gx_bif hm with ⟨a4, hm⟩ | ⟨a4, hm⟩
 ·refine gT a4 (G_seq (G_region (wR 1 [(4, .bool false)] bo (W_nil (N_then (G_ret (N_then_ret ?_)))))))
  obtain rfl := Option.some.inj hm
  exact N_ret [.bool false] (rC RVs_nil) (⟨rfl, ar.pk []⟩)
 refine gF a4 (G_skip (N_then (G_seq (G_seq (G_region (wR 2 [(0, .slice m k.length l), (3, pB t 0), (6, .slice g b.1.length d), (7, .bool b.2), (8, .slice B C.length A), (9, .slice o q.1.length n), (10, .bool q.2), (52, .slice B C.length A), (53, .slice m k.length l)] bo ?_))))))
 obtain ⟨cb, dw, hm⟩ := gx_bind hm
 refine wC 19 #[.slice m k.length l] ((c_l_toEventS bo k m l (U.mem0 ar) dw).mono ?_)
 rintro e_ et ⟨ca, b7, e7, rfl, dj, cn⟩
 have au := ar.call cn
 refine ⟨_, rfl, ?_⟩
 obtain ⟨eb, dx, hm⟩ := gx_bind hm
 refine wC 21 #[.slice B C.length A, .slice ca cb.length b7] ((c_l_eqEventS et C B A (bf.rd au 2 (by kernel_rfl)) cb ca b7 (dj.rd au 4 (by kernel_rfl)) dx).mono ?_)
 rintro e_ Y ⟨rfl, co⟩
 have ab := au.call0 co
 refine ⟨_, rfl, ?_⟩
 refine wR 1 [(0, .slice m k.length l), (3, pB t 0), (6, .slice g b.1.length d), (7, .bool b.2), (8, .slice B C.length A), (9, .slice o q.1.length n), (10, .bool q.2), (56, .bool (!eb))] Y (W_nil (N_then ?_))
 rcases gx_bif hm with ⟨a5, hm⟩ | ⟨a5, hm⟩
 ·refine gT a5 (G_seq (G_region (wR 1 [(4, .bool false)] Y (W_nil (N_then (G_ret (N_then_ret ?_)))))))
  obtain rfl := Option.some.inj hm
  exact N_ret [.bool false] (rC RVs_nil) (⟨rfl, ab.pk []⟩)
 refine gF a5 (G_skip (N_then (G_seq (G_region (wR 1 [(0, .slice m k.length l), (3, pB t 0), (6, .slice g b.1.length d), (7, .bool b.2), (8, .slice B C.length A), (9, .slice o q.1.length n), (10, .bool q.2), (11, iv 1)] Y (W_nil (N_then (G_seq (G_region (wR 2 [(0, .slice m k.length l), (3, pB t 0), (6, .slice g b.1.length d), (7, .bool b.2), (9, .slice o q.1.length n), (10, .bool q.2), (11, iv 1), (57, .slice B C.length A), (58, iv 1)] Y ?_))))))))))
 obtain ⟨bj, dy, hm⟩ := gx_bind hm
 refine wC 28 #[.slice B C.length A, iv 1] ((c_l_markEventS Y C B A cc bf 1 (ab.hasPick [2]) (ab.nodupPick [2] (by kernel_rfl)) dy).mono ?_)
 rintro e_ Z ⟨e8, rfl, e6, b8, cp⟩
 have ac := ab.callF' [2] [0, 1, 3, 4] (by kernel_rfl) cp
 refine ⟨_, rfl, ?_⟩
 refine wX 57 (.slice B C.length A) (.slice B bj.2.length A) (by first | rw [b8] | rw [b8]) (wR 1 [(0, .slice m k.length l), (3, pB t 0), (6, .slice g b.1.length d), (7, .bool b.2), (9, .slice o q.1.length n), (10, .bool q.2), (11, iv bj.1)] Z (W_nil (N_then (G_seq (G_seq ?_)))))
 obtain ⟨d8, dk, dg⟩ := gx_bind hm
 refine G_meet (fun a w' => Mem [] w w' [[(t, .cells ⟨[iv c.Tick, iv c.Guest, .string c.Kind, iv c.Value]⟩ 23 (0, 0))], (F 4), bk] ∧ Sat Try.f9.ntmps [(0, .slice m k.length l), (3, pB t 0), (6, .slice g b.1.length d), (7, .bool b.2), (9, .slice o q.1.length n), (72, .bool d8)] a) ?_ ?_
 ·have hm := dk
  refine G_region (wR 3 [(0, .slice m k.length l), (3, pB t 0), (6, .slice g b.1.length d), (7, .bool b.2), (9, .slice o q.1.length n), (10, .bool q.2), (62, .bool (decide (bj.1 < 0)))] Z ?_)
  rcases gx_bif hm with ⟨a6, hm⟩ | ⟨a6, hm⟩
  ·refine wK 62 true a6 (wR 10 [(0, .slice m k.length l), (3, pB t 0), (6, .slice g b.1.length d), (7, .bool b.2), (9, .slice o q.1.length n), (72, .bool true)] Z (W_nil ?_))
   obtain rfl := Option.some.inj hm
   exact N_meet fun a ha => ⟨ac.pk [0, 1, 2], ha.s⟩
  refine wK 62 false a6 (wR 2 [(0, .slice m k.length l), (3, pB t 0), (6, .slice g b.1.length d), (7, .bool b.2), (9, .slice o q.1.length n), (10, .bool q.2), (62, .bool false), (63, .slice o q.1.length n), (64, .slice g b.1.length d)] Z ?_)
  obtain ⟨ec, dz, hm⟩ := gx_bind hm
  refine wC 21 #[.slice o q.1.length n, .slice g b.1.length d] ((c_l_eqEventS Z q.1 o n (bg.rd ac 2 (by kernel_rfl)) b.1 g d (V.rd ac 1 (by kernel_rfl)) dz).mono ?_)
  rintro e_ bp ⟨rfl, cq⟩
  have b1 := ac.call0 cq
  refine ⟨_, rfl, ?_⟩
  refine wR 3 [(0, .slice m k.length l), (3, pB t 0), (6, .slice g b.1.length d), (7, .bool b.2), (9, .slice o q.1.length n), (10, .bool q.2), (68, .bool (!ec))] bp ?_
  rcases gx_bif hm with ⟨a7, hm⟩ | ⟨a7, hm⟩
  ·refine wK 68 true a7 (wR 4 [(0, .slice m k.length l), (3, pB t 0), (6, .slice g b.1.length d), (7, .bool b.2), (9, .slice o q.1.length n), (72, .bool true)] bp (W_nil ?_))
   obtain rfl := Option.some.inj hm
   exact N_meet fun a ha => ⟨b1.pk [0, 1, 2], ha.s⟩
  refine wK 68 false a7 (wR 4 [(0, .slice m k.length l), (3, pB t 0), (6, .slice g b.1.length d), (7, .bool b.2), (9, .slice o q.1.length n), (72, .bool (!(q.2 == b.2)))] bp (W_nil ?_))
  obtain rfl := Option.some.inj hm
  exact N_meet fun a ha => ⟨b1.pk [0, 1, 2], ha.s⟩
 intro e4 al ⟨ad, dd⟩
 refine N_use dd ?_
 have hm := dg
 refine N_then ?_
 rcases gx_bif hm with ⟨a8, hm⟩ | ⟨a8, hm⟩
 ·refine gT a8 (G_seq (G_region (wR 1 [(4, .bool false)] al (W_nil (N_then (G_ret (N_then_ret ?_)))))))
  obtain rfl := Option.some.inj hm
  exact N_ret [.bool false] (rC RVs_nil) (⟨rfl, ad.pk []⟩)
 refine gF a8 (G_skip (N_then (G_seq (G_region (wR 1 [(0, .slice m k.length l), (3, pB t 0), (6, .slice g b.1.length d), (7, .bool b.2), (9, .slice o q.1.length n), (12, iv 1)] al (W_nil (N_then (G_seq (G_region (wR 2 [(0, .slice m k.length l), (3, pB t 0), (6, .slice g b.1.length d), (7, .bool b.2), (9, .slice o q.1.length n), (12, iv 1), (73, .slice o q.1.length n), (74, iv 1)] al ?_))))))))))
 obtain ⟨u, d0, hm⟩ := gx_bind hm
 refine wC 28 #[.slice o q.1.length n, iv 1] ((c_l_markEventS al q.1 o n bk bg 1 (ad.hasPick [2]) (ad.nodupPick [2] (by kernel_rfl)) d0).mono ?_)
 rintro e_ am ⟨cd, rfl, b9, ae, cr⟩
 have b2 := ad.callF' [2] [0, 1] (by kernel_rfl) cr
 refine ⟨_, rfl, ?_⟩
 refine wX 9 (.slice o q.1.length n) (.slice o u.2.length n) (by first | rw [ae] | rw [ae]) (wX 73 (.slice o q.1.length n) (.slice o u.2.length n) (by first | rw [ae] | rw [ae]) (wR 1 [(0, .slice m k.length l), (3, pB t 0), (6, .slice g b.1.length d), (7, .bool b.2), (9, .slice o u.2.length n), (12, iv u.1)] am (W_nil (N_then (G_seq (G_region (wR 1 [(0, .slice m k.length l), (3, pB t 0), (6, .slice g b.1.length d), (7, .bool b.2), (9, .slice o u.2.length n), (12, iv u.1), (13, iv 1)] am (W_nil (N_then (G_seq (G_region (wR 2 [(0, .slice m k.length l), (3, pB t 0), (6, .slice g b.1.length d), (7, .bool b.2), (9, .slice o u.2.length n), (12, iv u.1), (13, iv 1), (76, .slice o u.2.length n), (77, iv 1)] am ?_))))))))))))
 obtain ⟨X, d1, hm⟩ := gx_bind hm
 refine wC 29 #[.slice o u.2.length n, iv 1] ((c_l_heldEventS am u.2 o n (b9.rd b2 2 (by kernel_rfl)) 1 d1).mono ?_)
 rintro e_ aa ⟨rfl, cs⟩
 have av := b2.call0 cs
 refine ⟨_, rfl, ?_⟩
 refine wR 1 [(0, .slice m k.length l), (3, pB t 0), (6, .slice g b.1.length d), (7, .bool b.2), (9, .slice o u.2.length n), (12, iv u.1), (13, iv X)] aa (W_nil (N_then (G_seq (G_seq (G_region (wR 2 [(0, .slice m k.length l), (3, pB t 0), (6, .slice g b.1.length d), (7, .bool b.2), (9, .slice o u.2.length n), (12, iv u.1), (13, iv X), (80, .bool (decide (X < 0)))] aa (W_nil (N_then ?_))))))))
 rcases gx_bif hm with ⟨a9, hm⟩ | ⟨a9, hm⟩
 ·refine gT a9 (G_seq (G_region (wR 1 [(4, .bool false)] aa (W_nil (N_then (G_ret (N_then_ret ?_)))))))
  obtain rfl := Option.some.inj hm
  exact N_ret [.bool false] (rC RVs_nil) (⟨rfl, av.pk []⟩)
 refine gF a9 (G_skip (N_then (G_seq (G_seq (G_region (wR 3 [(0, .slice m k.length l), (3, pB t 0), (6, .slice g b.1.length d), (7, .bool b.2), (9, .slice o u.2.length n), (12, iv u.1), (83, .bool (X != u.1))] aa (W_nil (N_then ?_))))))))
 rcases gx_bif hm with ⟨ba, hm⟩ | ⟨ba, hm⟩
 ·refine gT ba (G_seq (G_region (wR 1 [(4, .bool false)] aa (W_nil (N_then (G_ret (N_then_ret ?_)))))))
  obtain rfl := Option.some.inj hm
  exact N_ret [.bool false] (rC RVs_nil) (⟨rfl, av.pk []⟩)
 refine gF ba (G_skip (N_then (G_seq ?_)))
 obtain ⟨Q, d2, hm⟩ := gx_bind hm
 obtain ⟨E, d3, hm⟩ := gx_bind hm
 obtain ⟨x, d4, hm⟩ := gx_bind hm
 refine G_sub [(0, .slice m k.length l), (3, pB t 0), (6, .slice g b.1.length d), (7, .bool b.2), (9, .slice o u.2.length n), (12, iv u.1), (83, .bool (X != u.1))] (by kernel_rfl) (G_dagL 9 [[], [0], [], [2], [1, 3], [], [5], [5], [6]] [[], [], [], [], [], [], [], [], []] [[], [], [], [], [1], [], [], [], []] [[], [], [], [], [], [4], [4], [4], [4]] [[], [], [], [], [], [4], [4], [], [4]] [[], [], [], [], [], [], [], [], []] (fun _ => []) (fun i => ([fun f v s => v = (.slice m k.length l : Value) ∧ s = [], fun f v s => ∃ (J : Option Addr) (H : Nat), v = (.slice J Q.length H : Value) ∧ ownS encEvent Q J H s, fun f v s => v = (.agg #[iv c.Tick, iv c.Guest, .string c.Kind, iv c.Value] : Value) ∧ s = [], fun f v s => v = (.agg #[iv E.Tick, iv E.Guest, .string E.Kind, iv E.Value] : Value) ∧ s = [], fun f v s => ∃ (z : Option Addr) (y : Nat), v = (.tuple #[.slice z x.1.length y, .bool x.2] : Value) ∧ ownS encEvent x.1 z y s, fun f v s => v = (.tuple #[(atPath (f 4) [0]), .bool x.2] : Value) ∧ s = [], fun f v s => v = ((atPath (f 4) [0]) : Value) ∧ s = [], fun f v s => v = (.bool x.2 : Value) ∧ s = [], fun f v s => v = ((atPath (f 4) [0]) : Value) ∧ s = []] : List ((Nat → Value) → Value → Seg → Prop)).getD i (fun _ _ _ => False)) (fun j f v => ∃ s, (fun i => ([fun f v s => v = (.slice m k.length l : Value) ∧ s = [], fun f v s => ∃ (J : Option Addr) (H : Nat), v = (.slice J Q.length H : Value) ∧ ownS encEvent Q J H s, fun f v s => v = (.agg #[iv c.Tick, iv c.Guest, .string c.Kind, iv c.Value] : Value) ∧ s = [], fun f v s => v = (.agg #[iv E.Tick, iv E.Guest, .string E.Kind, iv E.Value] : Value) ∧ s = [], fun f v s => ∃ (z : Option Addr) (y : Nat), v = (.tuple #[.slice z x.1.length y, .bool x.2] : Value) ∧ ownS encEvent x.1 z y s, fun f v s => v = (.tuple #[(atPath (f 4) [0]), .bool x.2] : Value) ∧ s = [], fun f v s => v = ((atPath (f 4) [0]) : Value) ∧ s = [], fun f v s => v = (.bool x.2 : Value) ∧ s = [], fun f v s => v = ((atPath (f 4) [0]) : Value) ∧ s = []] : List ((Nat → Value) → Value → Seg → Prop)).getD i (fun _ _ _ => False)) j f v s) [] [1, 4, 7, 8] [1, 4] (fun _ _ _ s h => ⟨s, h⟩) (by kernel_rfl) (by kernel_rfl) (av.preNil 9) (by kernel_rfl) (by kernel_rfl) (by kernel_rfl) (by kernel_rfl) (allOb_cons ?_ (allOb_cons ?_ (allOb_cons ?_ (allOb_cons ?_ (allOb_cons ?_ (allOb_cons ?_ (allOb_cons ?_ (allOb_cons ?_ (allOb_cons ?_ allOb_nil))))))))) ?_)
 ·intro K N
  intro R eu c5
  exact wR 1 [(85, .slice m k.length l)] eu (W_nil (oE (.slice m k.length l) [] ⟨by kernel_rfl, rfl⟩ c5))
 ·intro K N
  intro v0_ hb0_
  obtain ⟨rfl, _⟩ := hb0_
  intro R ev b3
  refine wC 19 #[.slice m k.length l] ((c_l_toEventS ev k m l (U.mem0 b3) d2).mono ?_)
  rintro e_ fc ⟨J, H, eg, rfl, ag, ct⟩
  refine ⟨_, rfl, ?_⟩
  exact W_nil (oE (.slice J Q.length H) eg ⟨J, H, rfl, ag⟩ (Mem.callMid b3 ct))
 ·intro K N
  intro R ew b4
  exact wV (.agg #[iv c.Tick, iv c.Guest, .string c.Kind, iv c.Value]) ew (eL true 4 0 (b4.blk 0 rfl)) (W_nil (oE (.agg #[iv c.Tick, iv c.Guest, .string c.Kind, iv c.Value]) [] ⟨by kernel_rfl, rfl⟩ b4))
 ·intro K N
  intro v2_ hb2_
  obtain ⟨rfl, _⟩ := hb2_
  intro R ex c6
  refine wC 15 #[.agg #[iv c.Tick, iv c.Guest, .string c.Kind, iv c.Value]] ((c_l_toEvent ex c d3).mono ?_)
  rintro e_ fd ⟨rfl, cu⟩
  refine ⟨_, rfl, ?_⟩
  exact W_nil (oE (.agg #[iv E.Tick, iv E.Guest, .string E.Kind, iv E.Value]) [] ⟨rfl, rfl⟩ (c6.call0 cu))
 ·intro K N
  intro v1_ hb1_
  obtain ⟨J, H, rfl, ag⟩ := hb1_
  intro v3_ hb3_
  obtain ⟨rfl, _⟩ := hb3_
  intro R ey b5
  refine wC 33 #[.slice J Q.length H, .agg #[iv E.Tick, iv E.Guest, .string E.Kind, iv E.Value]] ((c_i_AddEvent ey Q J H (ag.rd b5 4 (by kernel_rfl)) E d4).mono ?_)
  rintro e_ fe ⟨z, y, eh, rfl, bh, cv⟩
  refine ⟨_, rfl, ?_⟩
  exact W_nil (oE (.tuple #[.slice z x.1.length y, .bool x.2]) eh ⟨z, y, rfl, bh⟩ (Mem.callMid b5 cv))
 ·intro K N
  intro v4_ hb4_
  obtain ⟨_, z, y, rfl, _⟩ := hb4_
  intro R ez c7
  exact wR 1 [(84, .tuple #[.slice z x.1.length y, .bool x.2])] ez (W_nil (oE (.tuple #[.slice z x.1.length y, .bool x.2]) [] ⟨by kernel_rfl, rfl⟩ c7))
 ·intro K N
  intro v4_ hb4_
  obtain ⟨_, z, y, rfl, _⟩ := hb4_
  intro v5_ hb5_
  obtain ⟨hv5_, _⟩ := hb5_
  obtain rfl : v5_ = (.tuple #[.slice z x.1.length y, .bool x.2] : Value) := hv5_.trans (by kernel_rfl)
  intro R e0 c8
  exact wR 1 [(90, .slice z x.1.length y)] e0 (W_nil (oE (.slice z x.1.length y) [] ⟨by kernel_rfl, rfl⟩ c8))
 ·intro K N
  intro v4_ hb4_
  obtain ⟨_, z, y, rfl, _⟩ := hb4_
  intro v5_ hb5_
  obtain ⟨hv5_, _⟩ := hb5_
  obtain rfl : v5_ = (.tuple #[.slice z x.1.length y, .bool x.2] : Value) := hv5_.trans (by kernel_rfl)
  intro R e1 c9
  exact wR 1 [(91, .bool x.2)] e1 (W_nil (oE (.bool x.2) [] ⟨by kernel_rfl, rfl⟩ c9))
 ·intro K N
  intro v4_ hb4_
  obtain ⟨_, z, y, rfl, _⟩ := hb4_
  intro v6_ hb6_
  obtain ⟨hv6_, _⟩ := hb6_
  obtain rfl : v6_ = (.slice z x.1.length y : Value) := hv6_.trans (by kernel_rfl)
  intro R e2 da
  exact wR 1 [(14, .slice z x.1.length y)] e2 (W_nil (oE (.slice z x.1.length y) [] ⟨by kernel_rfl, rfl⟩ da))
 intro K N
 intro v1_ hb1_
 obtain ⟨J, H, rfl, ag⟩ := hb1_
 intro v4_ hb4_
 obtain ⟨z, y, rfl, bh⟩ := hb4_
 intro v7_ hb7_
 obtain ⟨rfl, _⟩ := hb7_
 intro v8_ hb8_
 obtain ⟨hv8_, _⟩ := hb8_
 obtain rfl : v8_ = (.slice z x.1.length y : Value) := hv8_.trans (by kernel_rfl)
 intro an db
 have aw : Mem [] w an [[(t, .cells ⟨[iv c.Tick, iv c.Guest, .string c.Kind, iv c.Value]⟩ 23 (0, 0))], (F 4), cd, (K 1), (K 4)] := db
 refine wR 1 [(6, .slice g b.1.length d), (7, .bool b.2), (9, .slice o u.2.length n), (12, iv u.1), (14, .slice z x.1.length y), (15, .bool x.2)] an (W_nil (N_then (G_seq (G_seq ?_))))
 obtain ⟨d9, dl, dh⟩ := gx_bind hm
 refine G_meet (fun a w' => Mem [] w w' [cd] ∧ Sat Try.f9.ntmps [(9, .slice o u.2.length n), (12, iv u.1), (100, .bool d9)] a) ?_ ?_
 ·have hm := dl
  refine G_region (wR 2 [(7, .bool b.2), (9, .slice o u.2.length n), (12, iv u.1), (15, .bool x.2), (92, .slice z x.1.length y), (93, .slice g b.1.length d)] an ?_)
  obtain ⟨ed, d5, hm⟩ := gx_bind hm
  refine wC 21 #[.slice z x.1.length y, .slice g b.1.length d] ((c_l_eqEventS an x.1 z y (bh.rd aw 4 (by kernel_rfl)) b.1 g d (V.rd aw 1 (by kernel_rfl)) d5).mono ?_)
  rintro e_ bq ⟨rfl, cw⟩
  have b6 := aw.call0 cw
  refine ⟨_, rfl, ?_⟩
  refine wR 2 [(7, .bool b.2), (9, .slice o u.2.length n), (12, iv u.1), (15, .bool x.2), (96, .bool (!ed))] bq ?_
  rcases gx_bif hm with ⟨bb, hm⟩ | ⟨bb, hm⟩
  ·refine wK 96 true bb (wR 4 [(9, .slice o u.2.length n), (12, iv u.1), (100, .bool true)] bq (W_nil ?_))
   obtain rfl := Option.some.inj hm
   exact N_meet fun a ha => ⟨b6.pk [2], ha.s⟩
  refine wK 96 false bb (wR 4 [(9, .slice o u.2.length n), (12, iv u.1), (100, .bool (!(x.2 == b.2)))] bq (W_nil ?_))
  obtain rfl := Option.some.inj hm
  exact N_meet fun a ha => ⟨b6.pk [2], ha.s⟩
 intro e5 ao ⟨ax, de⟩
 refine N_use de ?_
 have hm := dh
 refine N_then ?_
 rcases gx_bif hm with ⟨bc, hm⟩ | ⟨bc, hm⟩
 ·refine gT bc (G_seq (G_region (wR 1 [(4, .bool false)] ao (W_nil (N_then (G_ret (N_then_ret ?_)))))))
  obtain rfl := Option.some.inj hm
  exact N_ret [.bool false] (rC RVs_nil) (⟨rfl, ax.pk []⟩)
 refine gF bc (G_skip (N_then (G_seq (G_region (wR 1 [(9, .slice o u.2.length n), (12, iv u.1), (13, iv 1)] ao (W_nil (N_then (G_seq (G_region (wR 2 [(12, iv u.1), (13, iv 1), (101, .slice o u.2.length n), (102, iv 1)] ao ?_))))))))))
 obtain ⟨ah, d6, hm⟩ := gx_bind hm
 refine wC 29 #[.slice o u.2.length n, iv 1] ((c_l_heldEventS ao u.2 o n (b9.rd ax 0 (by kernel_rfl)) 1 d6).mono ?_)
 rintro e_ T ⟨rfl, cx⟩
 have ay := ax.call0 cx
 refine ⟨_, rfl, ?_⟩
 refine wR 1 [(12, iv u.1), (13, iv ah)] T (W_nil (N_then (G_seq (G_seq (G_region (wR 2 [(12, iv u.1), (13, iv ah), (105, .bool (decide (ah < 0)))] T (W_nil (N_then ?_))))))))
 rcases gx_bif hm with ⟨bd, hm⟩ | ⟨bd, hm⟩
 ·refine gT bd (G_seq (G_region (wR 1 [(4, .bool false)] T (W_nil (N_then (G_ret (N_then_ret ?_)))))))
  obtain rfl := Option.some.inj hm
  exact N_ret [.bool false] (rC RVs_nil) (⟨rfl, ay.pk []⟩)
 refine gF bd (G_skip (N_then (G_seq (G_seq (G_region (wR 3 [(108, .bool (ah != u.1))] T (W_nil (N_then ?_))))))))
 rcases gx_bif hm with ⟨be, hm⟩ | ⟨be, hm⟩
 ·refine gT be (G_seq (G_region (wR 1 [(4, .bool false)] T (W_nil (N_then (G_ret (N_then_ret ?_)))))))
  obtain rfl := Option.some.inj hm
  exact N_ret [.bool false] (rC RVs_nil) (⟨rfl, ay.pk []⟩)
 refine gF be (G_skip (N_then (G_seq (G_region (wR 1 [(4, .bool true)] T (W_nil (N_then (G_ret ?_))))))))
 obtain rfl := Option.some.inj hm
 exact N_ret [.bool true] (rC RVs_nil) (⟨rfl, ay.pk []⟩)
theorem c_s_MergeRecords (w : World) (g : List Event) (i : Option Addr) (h : Nat) (S : rdS encEvent w g i h) (b : List Event) (c : Option Addr) (d : Nat) (C : rdS encEvent w b c d) {r : (List Event) × Bool} (hm : M.s_MergeRecords g b = some r) :
  Calls Try.prog 34 #[.slice i g.length h, .slice c b.length d] w fun e w' => ∃ (V : Option Addr) (R : Nat) (X : Seg), e = .returned (.tuple #[.slice V r.1.length R, .bool r.2]) ∧ ownS encEvent r.1 V R X ∧ Mem [] w w' [X] := by
 unfold M.s_MergeRecords at hm
 refine cE Try.func34 ?_
 have M0 := Mem.refl [] w
 refine G_seq (G_region (wR 2 [(0, .slice i g.length h), (1, .slice c b.length d)] w (W_nil (N_then (G_seq (G_seq ?_))))))
 obtain ⟨a3, ao, am⟩ := gx_bind hm
 refine G_meet (fun a w' => Mem [] w w' [] ∧ Sat Try.f34.ntmps [(0, .slice i g.length h), (1, .slice c b.length d), (23, .bool a3)] a) ?_ ?_
 ·have hm := ao
  refine G_region (wR 1 [(0, .slice i g.length h), (1, .slice c b.length d), (8, .slice i g.length h)] w ?_)
  obtain ⟨a5, ax, hm⟩ := gx_bind hm
  refine wC 56 #[.slice i g.length h] ((c_s_l22Good w g i h (S.mem0 M0) ax).mono ?_)
  rintro e_ x ⟨rfl, aa⟩
  have y := M0.call0 aa
  refine ⟨_, rfl, ?_⟩
  refine wR 2 [(0, .slice i g.length h), (1, .slice c b.length d), (11, .bool (!a5))] x ?_
  rcases gx_bif hm with ⟨D, hm⟩ | ⟨D, hm⟩
  ·refine wK 11 true D (wR 12 [(0, .slice i g.length h), (1, .slice c b.length d), (23, .bool true)] x (W_nil ?_))
   obtain rfl := Option.some.inj hm
   exact N_meet fun a ha => ⟨y.pk [], ha.s⟩
  refine wK 11 false D (wR 1 [(0, .slice i g.length h), (1, .slice c b.length d), (11, .bool false), (12, .slice c b.length d)] x ?_)
  obtain ⟨a6, ay, hm⟩ := gx_bind hm
  refine wC 56 #[.slice c b.length d] ((c_s_l22Good x b c d (C.mem0 y) ay).mono ?_)
  rintro e_ L ⟨rfl, ab⟩
  have N := y.call0 ab
  refine ⟨_, rfl, ?_⟩
  refine wR 3 [(0, .slice i g.length h), (1, .slice c b.length d), (16, .bool (!a6))] L ?_
  rcases gx_bif hm with ⟨F, hm⟩ | ⟨F, hm⟩
  ·refine wK 16 true F (wR 7 [(0, .slice i g.length h), (1, .slice c b.length d), (23, .bool true)] L (W_nil ?_))
   obtain rfl := Option.some.inj hm
   exact N_meet fun a ha => ⟨N.pk [], ha.s⟩
  refine wK 16 false F (wR 7 [(0, .slice i g.length h), (1, .slice c b.length d), (23, .bool (decide ((w64 ((g.length : Int) + (b.length : Int))) > 30)))] L (W_nil ?_))
  obtain rfl := Option.some.inj hm
  exact N_meet fun a ha => ⟨N.pk [], ha.s⟩
 intro bd bh ⟨O, ai⟩
 refine N_use ai ?_
 have hm := am
 refine N_then ?_
 rcases gx_bif hm with ⟨G, hm⟩ | ⟨G, hm⟩
 ·refine gT G (G_seq (G_region (wL (E := encEvent) ([] : List Event) 0 [] 26 O ?_)))
  intro I z a7 ba ap ad
  refine wR 2 [(4, .slice I ([] : List Event).length z), (5, .bool false)] ba (W_nil (N_then (G_ret (N_then_ret ?_))))
  obtain rfl := Option.some.inj hm
  exact N_ret [.slice I ([] : List Event).length z, .bool false] (rC (rC RVs_nil)) (⟨I, z, a7, rfl, ap, ad.pk [0]⟩)
 refine gF G (G_skip (N_then (G_seq (G_region (wL (E := encEvent) ([] : List Event) 0 [] 26 O ?_)))))
 intro a4 ah bg bb aq P
 refine wR 1 [(1, .slice c b.length d), (25, .slice a4 ([] : List Event).length ah), (26, .slice i g.length h)] bb ?_
 obtain ⟨Q, al, hm⟩ := gx_bind hm
 refine wA 40 [iv 0, iv 0, .string ByteArray.empty, iv 0] 0 P aq (S.mem0 P) al ?_
 intro J A a8 Y ar ae
 refine wR 1 [(1, .slice c b.length d), (6, .slice J Q.length A)] Y (W_nil (N_then (G_seq (G_seq (G_region (wR 1 [(1, .slice c b.length d), (6, .slice J Q.length A), (7, iv 0)] Y (W_nil (N_then ?_))))))))
 obtain ⟨t, a0, an⟩ := gx_bind hm
 refine G_meet (fun a w' => ∃ (n : Option Addr), ∃ (m : Nat), ∃ (v : Seg), ownS encEvent t n m v ∧ Mem [] w w' [v] ∧ Sat Try.f34.ntmps [(6, .slice n t.length m)] a) ?_ ?_
 ·refine G_block (G_while (σ := List Event × Int) (ρ := List Event) (fun f a w' => ∃ (k : Option Addr), ∃ (j : Nat), ∃ (u : Seg), ownS encEvent f.1 k j u ∧ Mem [] w w' [u] ∧ Sat Try.f34.ntmps [(1, .slice c b.length d), (6, .slice k f.1.length j), (7, iv f.2)] a) a0 (fun a ha => ⟨J, A, a8, ar, ae.pk [0], ha.s⟩) ?_)
  clear hm
  intro f bi hm aw be q ⟨k, j, u, T, o, aj⟩
  refine G_use aj (G_seq (G_seq (G_region (wR 4 [(1, .slice c b.length d), (6, .slice k f.1.length j), (7, iv f.2), (31, .bool (decide (f.2 < (b.length : Int))))] q (W_nil (N_then ?_))))))
  rcases gx_bif hm with ⟨H, hm⟩ | ⟨H, hm⟩
  ·refine gT H (G_skip (N_then (G_seq (G_block (G_region (wR 3 [(1, .slice c b.length d), (6, .slice k f.1.length j), (7, iv f.2), (34, .slice k f.1.length j), (35, .slice c b.length d), (36, iv f.2)] q ?_))))))
   obtain ⟨l, U, hm⟩ := gx_bind hm
   refine wV (elemP c (f.2.toNat * 4)) q (eI (C.mem0 o) rfl U) (wV (.agg #[iv l.Tick, iv l.Guest, .string l.Kind, iv l.Value]) q (eE true 4 0 (f.2.toNat * 4) (C.mem0 o) U) ?_)
   obtain ⟨W, az, hm⟩ := gx_bind hm
   refine wC 68 #[.slice k f.1.length j, .agg #[iv l.Tick, iv l.Guest, .string l.Kind, iv l.Value]] ((c_s_l22Add q f.1 k j (T.rd o 0 (by kernel_rfl)) l az).mono ?_)
   rintro e_ Z ⟨K, B, a9, rfl, av, ac⟩
   have af := o.call ac
   refine ⟨_, rfl, ?_⟩
   refine wR 1 [(1, .slice c b.length d), (6, .slice K W.length B), (7, iv f.2)] Z (W_nil (N_block (N_then (G_region (wR 3 [(1, .slice c b.length d), (6, .slice K W.length B), (7, iv (w64 (f.2 + 1)))] Z (W_nil ?_))))))
   obtain rfl := Option.some.inj hm
   exact N_loop fun a ha => ⟨_, rfl, K, B, a9, av, af.pk [1], ha.s⟩
  refine gF H (G_exit (N_then_exit (N_then_exit (N_block_eq ?_))))
  obtain rfl := Option.some.inj hm
  obtain rfl := aw _ rfl
  exact N_meet fun a ha => ⟨k, j, u, T, o.pk [0], ha.s⟩
 intro bf bc ⟨n, m, v, au, ag, ak⟩
 refine N_use ak ?_
 have hm := an
 refine N_then (G_seq (G_region (wR 3 [(4, .slice n t.length m), (5, .bool true)] bc (W_nil (N_then (G_ret ?_))))))
 obtain rfl := Option.some.inj hm
 exact N_ret [.slice n t.length m, .bool true] (rC (rC RVs_nil)) (⟨n, m, v, rfl, au, ag.pk [0]⟩)
theorem c_i_MergeRecords (w : World) (b : List Event) (g : Option Addr) (d : Nat) (v : rdS encEvent w b g d) (c : List Event) (h : Option Addr) (f : Nat) (x : rdS encEvent w c h f) {r : (List Event) × Bool} (hm : M.i_MergeRecords b c = some r) :
  Calls Try.prog 35 #[.slice g b.length d, .slice h c.length f] w fun e w' => ∃ (y : Option Addr) (u : Nat) (z : Seg), e = .returned (.tuple #[.slice y r.1.length u, .bool r.2]) ∧ ownS encEvent r.1 y u z ∧ Mem [] w w' [z] := by
 unfold M.i_MergeRecords at hm
 refine cE Try.func35 ?_
 have M0 := Mem.refl [] w
 refine G_seq (G_region (wR 2 [(0, .slice g b.length d), (1, .slice h c.length f)] w (W_nil (N_then (G_seq (G_seq ?_))))))
 obtain ⟨N, H, G⟩ := gx_bind hm
 refine G_meet (fun a w' => Mem [] w w' [] ∧ Sat Try.f35.ntmps [(0, .slice g b.length d), (1, .slice h c.length f), (13, .bool N)] a) ?_ ?_
 ·have hm := H
  refine G_region (wR 1 [(0, .slice g b.length d), (1, .slice h c.length f), (6, .slice g b.length d)] w ?_)
  obtain ⟨O, J, hm⟩ := gx_bind hm
  refine wC 20 #[.slice g b.length d] ((c_i_IsRecord w b g d (v.mem0 M0) J).mono ?_)
  rintro e_ k ⟨rfl, A⟩
  have l := M0.call0 A
  refine ⟨_, rfl, ?_⟩
  refine wR 2 [(0, .slice g b.length d), (1, .slice h c.length f), (9, .bool (!O))] k ?_
  rcases gx_bif hm with ⟨n, hm⟩ | ⟨n, hm⟩
  ·refine wK 9 true n (wR 4 [(0, .slice g b.length d), (1, .slice h c.length f), (13, .bool true)] k (W_nil ?_))
   obtain rfl := Option.some.inj hm
   exact N_meet fun a ha => ⟨l.pk [], ha.s⟩
  refine wK 9 false n (wR 1 [(0, .slice g b.length d), (1, .slice h c.length f), (9, .bool false), (10, .slice h c.length f)] k ?_)
  obtain ⟨P, K, hm⟩ := gx_bind hm
  refine wC 20 #[.slice h c.length f] ((c_i_IsRecord k c h f (x.mem0 l) K).mono ?_)
  rintro e_ R ⟨rfl, B⟩
  have D := l.call0 B
  refine ⟨_, rfl, ?_⟩
  refine wR 2 [(0, .slice g b.length d), (1, .slice h c.length f), (13, .bool (!P))] R (W_nil ?_)
  obtain rfl := Option.some.inj hm
  exact N_meet fun a ha => ⟨D.pk [], ha.s⟩
 intro T t ⟨i, F⟩
 refine N_use F ?_
 have hm := G
 refine N_then ?_
 rcases gx_bif hm with ⟨o, hm⟩ | ⟨o, hm⟩
 ·refine gT o (G_seq (G_region (wR 2 [(4, .slice none 0 0), (5, .bool false)] t (W_nil (N_then (G_ret (N_then_ret ?_)))))))
  obtain rfl := Option.some.inj hm
  exact N_ret [.slice none 0 0, .bool false] (rC (rC RVs_nil)) (⟨none, 0, [], rfl, ownS_nil, i.pk [100000]⟩)
 refine gF o (G_skip (N_then (G_seq (G_region (wR 2 [(14, .slice g b.length d), (15, .slice h c.length f)] t ?_)))))
 obtain ⟨j, L, hm⟩ := gx_bind hm
 refine wC 69 #[.slice g b.length d, .slice h c.length f] ((c_i_merged t b g d (v.mem0 i) c h f (x.mem0 i) L).mono ?_)
 rintro e_ S ⟨q, m, Q, rfl, I, C⟩
 have E := i.call C
 refine ⟨_, rfl, ?_⟩
 refine wR 4 [(4, .slice q j.1.length m), (5, .bool j.2)] S (W_nil (N_then (G_ret ?_)))
 obtain rfl := Option.some.inj hm
 exact N_ret [.slice q j.1.length m, .bool j.2] (rC (rC RVs_nil)) (⟨q, m, Q, rfl, I, E.pk [0]⟩)
theorem c_l_FnExactMergeRecords (w : World) (g : List Event) (i : Option Addr) (h : Nat) (E : rdS encEvent w g i h) (c : List Event) (f : Option Addr) (d : Nat) (F : rdS encEvent w c f d) {r : Bool} (hm : M.l_FnExactMergeRecords g c = some r) :
  Calls Try.prog 10 #[.slice i g.length h, .slice f c.length d] w fun e w' => e = .returned (.bool r) ∧ Mem [] w w' [] := by
 unfold M.l_FnExactMergeRecords at hm
 refine cE Try.func10 ?_
 have M0 := Mem.refl [] w
 refine G_seq (G_region (wR 1 [(0, .slice i g.length h), (1, .slice f c.length d)] w (W_nil (N_then (G_seq (G_region (wR 1 [(0, .slice i g.length h), (1, .slice f c.length d), (5, iv 1048576)] w (W_nil (N_then (G_seq (G_region (wR 2 [(0, .slice i g.length h), (1, .slice f c.length d), (5, iv 1048576), (17, .slice i g.length h), (18, iv 1048576)] w ?_))))))))))))
 obtain ⟨A, dp, hm⟩ := gx_bind hm
 refine wC 17 #[.slice i g.length h, iv 1048576] ((c_l_szEventS w g i h (E.mem0 M0) 1048576 dp).mono ?_)
 rintro e_ G ⟨rfl, cl⟩
 have Y := M0.call0 cl
 refine ⟨_, rfl, ?_⟩
 refine wR 1 [(0, .slice i g.length h), (1, .slice f c.length d), (5, iv A)] G (W_nil (N_then (G_seq (G_seq (G_region (wR 2 [(0, .slice i g.length h), (1, .slice f c.length d), (5, iv A), (21, .bool (decide (A < 0)))] G (W_nil (N_then ?_))))))))
 rcases gx_bif hm with ⟨ao, hm⟩ | ⟨ao, hm⟩
 ·refine gT ao (G_seq (G_region (wR 1 [(4, .bool true)] G (W_nil (N_then (G_ret (N_then_ret ?_)))))))
  obtain rfl := Option.some.inj hm
  exact N_ret [.bool true] (rC RVs_nil) (⟨rfl, Y.pk []⟩)
 refine gF ao (G_skip (N_then (G_seq (G_region (wR 2 [(0, .slice i g.length h), (1, .slice f c.length d), (5, iv A), (22, .slice f c.length d), (23, iv A)] G ?_)))))
 obtain ⟨cb, dq, hm⟩ := gx_bind hm
 refine wC 17 #[.slice f c.length d, iv A] ((c_l_szEventS G c f d (F.mem0 Y) A dq).mono ?_)
 rintro e_ H ⟨rfl, cm⟩
 have Z := Y.call0 cm
 refine ⟨_, rfl, ?_⟩
 refine wR 1 [(0, .slice i g.length h), (1, .slice f c.length d), (5, iv cb)] H (W_nil (N_then (G_seq (G_seq (G_region (wR 2 [(0, .slice i g.length h), (1, .slice f c.length d), (26, .bool (decide (cb < 0)))] H (W_nil (N_then ?_))))))))
 rcases gx_bif hm with ⟨ap, hm⟩ | ⟨ap, hm⟩
 ·refine gT ap (G_seq (G_region (wR 1 [(4, .bool true)] H (W_nil (N_then (G_ret (N_then_ret ?_)))))))
  obtain rfl := Option.some.inj hm
  exact N_ret [.bool true] (rC RVs_nil) (⟨rfl, Z.pk []⟩)
 refine gF ap (G_skip (N_then (G_seq (G_region (wR 1 [(0, .slice i g.length h), (1, .slice f c.length d), (28, .slice i g.length h)] H ?_)))))
 obtain ⟨bd, dr, hm⟩ := gx_bind hm
 refine wC 19 #[.slice i g.length h] ((c_l_toEventS H g i h (E.mem0 Z) dr).mono ?_)
 rintro e_ cj ⟨bb, am, ev, rfl, de, cn⟩
 have br := Z.call cn
 refine ⟨_, rfl, ?_⟩
 refine wR 1 [(0, .slice i g.length h), (1, .slice f c.length d), (29, .slice bb bd.length am), (30, .slice f c.length d)] cj ?_
 obtain ⟨cc, ds, hm⟩ := gx_bind hm
 refine wC 19 #[.slice f c.length d] ((c_l_toEventS cj c f d (F.mem0 br) ds).mono ?_)
 rintro e_ el ⟨b7, b0, ew, rfl, df, co⟩
 have aa := br.call co
 refine ⟨_, rfl, ?_⟩
 obtain ⟨b, dt, hm⟩ := gx_bind hm
 refine wC 34 #[.slice bb bd.length am, .slice b7 cc.length b0] ((c_s_MergeRecords el bd bb am (de.rd aa 0 (by kernel_rfl)) cc b7 b0 (df.rd aa 1 (by kernel_rfl)) dt).mono ?_)
 rintro e_ bh ⟨n, m, cg, rfl, a7, cp⟩
 have bs := aa.call cp
 refine ⟨_, rfl, ?_⟩
 refine wR 5 [(0, .slice i g.length h), (1, .slice f c.length d), (6, .slice n b.1.length m), (7, .bool b.2)] bh (W_nil (N_then (G_seq (G_region (wR 1 [(0, .slice i g.length h), (1, .slice f c.length d), (6, .slice n b.1.length m), (7, .bool b.2), (35, .slice i g.length h)] bh ?_)))))
 obtain ⟨x, du, hm⟩ := gx_bind hm
 refine wC 19 #[.slice i g.length h] ((c_l_toEventS bh g i h (E.mem0 bs) du).mono ?_)
 rintro e_ bi ⟨u, q, ch, rfl, a8, cq⟩
 have bt := bs.call cq
 refine ⟨_, rfl, ?_⟩
 refine wR 1 [(0, .slice i g.length h), (1, .slice f c.length d), (6, .slice n b.1.length m), (7, .bool b.2), (8, .slice u x.length q)] bi (W_nil (N_then (G_seq (G_region (wR 1 [(0, .slice i g.length h), (1, .slice f c.length d), (6, .slice n b.1.length m), (7, .bool b.2), (8, .slice u x.length q), (37, .slice f c.length d)] bi ?_)))))
 obtain ⟨y, dv, hm⟩ := gx_bind hm
 refine wC 19 #[.slice f c.length d] ((c_l_toEventS bi c f d (F.mem0 bt) dv).mono ?_)
 rintro e_ bj ⟨v, t, ci, rfl, a9, cr⟩
 have ab := bt.call cr
 refine ⟨_, rfl, ?_⟩
 refine wR 1 [(0, .slice i g.length h), (1, .slice f c.length d), (6, .slice n b.1.length m), (7, .bool b.2), (8, .slice u x.length q), (9, .slice v y.length t)] bj (W_nil (N_then (G_seq (G_region (wR 2 [(0, .slice i g.length h), (1, .slice f c.length d), (6, .slice n b.1.length m), (7, .bool b.2), (8, .slice u x.length q), (9, .slice v y.length t), (40, .slice u x.length q), (41, .slice v y.length t)] bj ?_)))))
 obtain ⟨l, dw, hm⟩ := gx_bind hm
 refine wC 35 #[.slice u x.length q, .slice v y.length t] ((c_i_MergeRecords bj x u q (a8.rd ab 3 (by kernel_rfl)) y v t (a9.rd ab 4 (by kernel_rfl)) dw).mono ?_)
 rintro e_ bk ⟨k, j, bg, rfl, ba, cs⟩
 have ac := ab.call cs
 refine ⟨_, rfl, ?_⟩
 refine wR 5 [(0, .slice i g.length h), (1, .slice f c.length d), (6, .slice n b.1.length m), (7, .bool b.2), (8, .slice u x.length q), (9, .slice v y.length t), (10, .slice k l.1.length j), (11, .bool l.2)] bk (W_nil (N_then (G_seq (G_seq ?_))))
 obtain ⟨ec, dg, db⟩ := gx_bind hm
 refine G_meet (fun a w' => Mem [] w w' [cg, ch, ci, bg] ∧ Sat Try.f10.ntmps [(0, .slice i g.length h), (1, .slice f c.length d), (6, .slice n b.1.length m), (7, .bool b.2), (8, .slice u x.length q), (9, .slice v y.length t), (10, .slice k l.1.length j), (11, .bool l.2), (53, .bool ec)] a) ?_ ?_
 ·have hm := dg
  refine G_region (wR 2 [(0, .slice i g.length h), (1, .slice f c.length d), (6, .slice n b.1.length m), (7, .bool b.2), (8, .slice u x.length q), (9, .slice v y.length t), (10, .slice k l.1.length j), (11, .bool l.2), (45, .slice k l.1.length j), (46, .slice n b.1.length m)] bk ?_)
  obtain ⟨ef, dx, hm⟩ := gx_bind hm
  refine wC 21 #[.slice k l.1.length j, .slice n b.1.length m] ((c_l_eqEventS bk l.1 k j (ba.rd ac 5 (by kernel_rfl)) b.1 n m (a7.rd ac 2 (by kernel_rfl)) dx).mono ?_)
  rintro e_ bl ⟨rfl, ct⟩
  have bu := ac.call0 ct
  refine ⟨_, rfl, ?_⟩
  refine wR 2 [(0, .slice i g.length h), (1, .slice f c.length d), (6, .slice n b.1.length m), (7, .bool b.2), (8, .slice u x.length q), (9, .slice v y.length t), (10, .slice k l.1.length j), (11, .bool l.2), (49, .bool (!ef))] bl ?_
  rcases gx_bif hm with ⟨aq, hm⟩ | ⟨aq, hm⟩
  ·refine wK 49 true aq (wR 4 [(0, .slice i g.length h), (1, .slice f c.length d), (6, .slice n b.1.length m), (7, .bool b.2), (8, .slice u x.length q), (9, .slice v y.length t), (10, .slice k l.1.length j), (11, .bool l.2), (53, .bool true)] bl (W_nil ?_))
   obtain rfl := Option.some.inj hm
   exact N_meet fun a ha => ⟨bu.pk [2, 3, 4, 5], ha.s⟩
  refine wK 49 false aq (wR 4 [(0, .slice i g.length h), (1, .slice f c.length d), (6, .slice n b.1.length m), (7, .bool b.2), (8, .slice u x.length q), (9, .slice v y.length t), (10, .slice k l.1.length j), (11, .bool l.2), (53, .bool (!(l.2 == b.2)))] bl (W_nil ?_))
  obtain rfl := Option.some.inj hm
  exact N_meet fun a ha => ⟨bu.pk [2, 3, 4, 5], ha.s⟩
 intro ep bm ⟨ad, c8⟩
 refine N_use c8 ?_
 have hm := db
 refine N_then ?_
 rcases gx_bif hm with ⟨ar, hm⟩ | ⟨ar, hm⟩
 ·refine gT ar (G_seq (G_region (wR 1 [(4, .bool false)] bm (W_nil (N_then (G_ret (N_then_ret ?_)))))))
  obtain rfl := Option.some.inj hm
  exact N_ret [.bool false] (rC RVs_nil) (⟨rfl, ad.pk []⟩)
 refine gF ar (G_skip (N_then (G_seq (G_seq (G_region (wR 2 [(0, .slice i g.length h), (1, .slice f c.length d), (6, .slice n b.1.length m), (7, .bool b.2), (8, .slice u x.length q), (9, .slice v y.length t), (10, .slice k l.1.length j), (11, .bool l.2), (54, .slice u x.length q), (55, .slice i g.length h)] bm ?_))))))
 obtain ⟨cd, dy, hm⟩ := gx_bind hm
 refine wC 19 #[.slice i g.length h] ((c_l_toEventS bm g i h (E.mem0 ad) dy).mono ?_)
 rintro e_ em ⟨b8, b1, ex, rfl, dh, cu⟩
 have ae := ad.call cu
 refine ⟨_, rfl, ?_⟩
 obtain ⟨eg, dz, hm⟩ := gx_bind hm
 refine wC 21 #[.slice u x.length q, .slice b8 cd.length b1] ((c_l_eqEventS em x u q (a8.rd ae 1 (by kernel_rfl)) cd b8 b1 (dh.rd ae 4 (by kernel_rfl)) dz).mono ?_)
 rintro e_ U ⟨rfl, cv⟩
 have af := ae.call0 cv
 refine ⟨_, rfl, ?_⟩
 refine wR 1 [(0, .slice i g.length h), (1, .slice f c.length d), (6, .slice n b.1.length m), (7, .bool b.2), (8, .slice u x.length q), (9, .slice v y.length t), (10, .slice k l.1.length j), (11, .bool l.2), (58, .bool (!eg))] U (W_nil (N_then ?_))
 rcases gx_bif hm with ⟨au, hm⟩ | ⟨au, hm⟩
 ·refine gT au (G_seq (G_region (wR 1 [(4, .bool false)] U (W_nil (N_then (G_ret (N_then_ret ?_)))))))
  obtain rfl := Option.some.inj hm
  exact N_ret [.bool false] (rC RVs_nil) (⟨rfl, af.pk []⟩)
 refine gF au (G_skip (N_then (G_seq (G_seq (G_region (wR 2 [(0, .slice i g.length h), (1, .slice f c.length d), (6, .slice n b.1.length m), (7, .bool b.2), (8, .slice u x.length q), (9, .slice v y.length t), (10, .slice k l.1.length j), (11, .bool l.2), (59, .slice v y.length t), (60, .slice f c.length d)] U ?_))))))
 obtain ⟨ce, d0, hm⟩ := gx_bind hm
 refine wC 19 #[.slice f c.length d] ((c_l_toEventS U c f d (F.mem0 af) d0).mono ?_)
 rintro e_ en ⟨b9, b2, ey, rfl, di, cw⟩
 have ag := af.call cw
 refine ⟨_, rfl, ?_⟩
 obtain ⟨eh, d1, hm⟩ := gx_bind hm
 refine wC 21 #[.slice v y.length t, .slice b9 ce.length b2] ((c_l_eqEventS en y v t (a9.rd ag 2 (by kernel_rfl)) ce b9 b2 (di.rd ag 5 (by kernel_rfl)) d1).mono ?_)
 rintro e_ I ⟨rfl, cx⟩
 have K := ag.call0 cx
 refine ⟨_, rfl, ?_⟩
 refine wR 1 [(0, .slice i g.length h), (1, .slice f c.length d), (6, .slice n b.1.length m), (7, .bool b.2), (8, .slice u x.length q), (9, .slice v y.length t), (10, .slice k l.1.length j), (11, .bool l.2), (63, .bool (!eh))] I (W_nil (N_then ?_))
 rcases gx_bif hm with ⟨av, hm⟩ | ⟨av, hm⟩
 ·refine gT av (G_seq (G_region (wR 1 [(4, .bool false)] I (W_nil (N_then (G_ret (N_then_ret ?_)))))))
  obtain rfl := Option.some.inj hm
  exact N_ret [.bool false] (rC RVs_nil) (⟨rfl, K.pk []⟩)
 refine gF av (G_skip (N_then (G_seq (G_region (wR 1 [(0, .slice i g.length h), (1, .slice f c.length d), (6, .slice n b.1.length m), (7, .bool b.2), (8, .slice u x.length q), (9, .slice v y.length t), (10, .slice k l.1.length j), (11, .bool l.2), (12, iv 1)] I (W_nil (N_then (G_seq (G_region (wR 2 [(0, .slice i g.length h), (1, .slice f c.length d), (6, .slice n b.1.length m), (7, .bool b.2), (9, .slice v y.length t), (10, .slice k l.1.length j), (11, .bool l.2), (12, iv 1), (64, .slice u x.length q), (65, iv 1)] I ?_))))))))))
 obtain ⟨C, d2, hm⟩ := gx_bind hm
 refine wC 28 #[.slice u x.length q, iv 1] ((c_l_markEventS I x u q ch a8 1 (K.hasPick [1]) (K.nodupPick [1] (by kernel_rfl)) d2).mono ?_)
 rintro e_ bn ⟨ez, rfl, et, b4, cy⟩
 have ah := K.callF' [1] [0, 2, 3, 4, 5] (by kernel_rfl) cy
 refine ⟨_, rfl, ?_⟩
 refine wX 64 (.slice u x.length q) (.slice u C.2.length q) (by first | rw [b4] | rw [b4]) (wR 1 [(0, .slice i g.length h), (1, .slice f c.length d), (6, .slice n b.1.length m), (7, .bool b.2), (9, .slice v y.length t), (10, .slice k l.1.length j), (11, .bool l.2), (12, iv C.1)] bn (W_nil (N_then (G_seq (G_region (wR 2 [(0, .slice i g.length h), (1, .slice f c.length d), (6, .slice n b.1.length m), (7, .bool b.2), (10, .slice k l.1.length j), (11, .bool l.2), (12, iv C.1), (67, .slice v y.length t), (68, iv C.1)] bn ?_))))))
 obtain ⟨be, d3, hm⟩ := gx_bind hm
 refine wC 28 #[.slice v y.length t, iv C.1] ((c_l_markEventS bn y v t ci a9 C.1 (ah.hasPick [1]) (ah.nodupPick [1] (by kernel_rfl)) d3).mono ?_)
 rintro e_ J ⟨e0, rfl, eu, b5, cz⟩
 have L := ah.callF' [1] [0, 2, 3, 4, 5] (by kernel_rfl) cz
 refine ⟨_, rfl, ?_⟩
 refine wX 67 (.slice v y.length t) (.slice v be.2.length t) (by first | rw [b5] | rw [b5]) (wR 1 [(0, .slice i g.length h), (1, .slice f c.length d), (6, .slice n b.1.length m), (7, .bool b.2), (10, .slice k l.1.length j), (11, .bool l.2), (12, iv be.1)] J (W_nil (N_then (G_seq (G_seq ?_)))))
 obtain ⟨ed, dj, dc⟩ := gx_bind hm
 refine G_meet (fun a w' => Mem [] w w' [cg, bg] ∧ Sat Try.f10.ntmps [(0, .slice i g.length h), (1, .slice f c.length d), (6, .slice n b.1.length m), (7, .bool b.2), (10, .slice k l.1.length j), (82, .bool ed)] a) ?_ ?_
 ·have hm := dj
  refine G_region (wR 3 [(0, .slice i g.length h), (1, .slice f c.length d), (6, .slice n b.1.length m), (7, .bool b.2), (10, .slice k l.1.length j), (11, .bool l.2), (72, .bool (decide (be.1 < 0)))] J ?_)
  rcases gx_bif hm with ⟨aw, hm⟩ | ⟨aw, hm⟩
  ·refine wK 72 true aw (wR 10 [(0, .slice i g.length h), (1, .slice f c.length d), (6, .slice n b.1.length m), (7, .bool b.2), (10, .slice k l.1.length j), (82, .bool true)] J (W_nil ?_))
   obtain rfl := Option.some.inj hm
   exact N_meet fun a ha => ⟨L.pk [0, 1], ha.s⟩
  refine wK 72 false aw (wR 2 [(0, .slice i g.length h), (1, .slice f c.length d), (6, .slice n b.1.length m), (7, .bool b.2), (10, .slice k l.1.length j), (11, .bool l.2), (72, .bool false), (73, .slice k l.1.length j), (74, .slice n b.1.length m)] J ?_)
  obtain ⟨ei, d4, hm⟩ := gx_bind hm
  refine wC 21 #[.slice k l.1.length j, .slice n b.1.length m] ((c_l_eqEventS J l.1 k j (ba.rd L 1 (by kernel_rfl)) b.1 n m (a7.rd L 0 (by kernel_rfl)) d4).mono ?_)
  rintro e_ bo ⟨rfl, c0⟩
  have bv := L.call0 c0
  refine ⟨_, rfl, ?_⟩
  refine wR 3 [(0, .slice i g.length h), (1, .slice f c.length d), (6, .slice n b.1.length m), (7, .bool b.2), (10, .slice k l.1.length j), (11, .bool l.2), (78, .bool (!ei))] bo ?_
  rcases gx_bif hm with ⟨ax, hm⟩ | ⟨ax, hm⟩
  ·refine wK 78 true ax (wR 4 [(0, .slice i g.length h), (1, .slice f c.length d), (6, .slice n b.1.length m), (7, .bool b.2), (10, .slice k l.1.length j), (82, .bool true)] bo (W_nil ?_))
   obtain rfl := Option.some.inj hm
   exact N_meet fun a ha => ⟨bv.pk [0, 1], ha.s⟩
  refine wK 78 false ax (wR 4 [(0, .slice i g.length h), (1, .slice f c.length d), (6, .slice n b.1.length m), (7, .bool b.2), (10, .slice k l.1.length j), (82, .bool (!(l.2 == b.2)))] bo (W_nil ?_))
  obtain rfl := Option.some.inj hm
  exact N_meet fun a ha => ⟨bv.pk [0, 1], ha.s⟩
 intro er V ⟨N, c9⟩
 refine N_use c9 ?_
 have hm := dc
 refine N_then ?_
 rcases gx_bif hm with ⟨ay, hm⟩ | ⟨ay, hm⟩
 ·refine gT ay (G_seq (G_region (wR 1 [(4, .bool false)] V (W_nil (N_then (G_ret (N_then_ret ?_)))))))
  obtain rfl := Option.some.inj hm
  exact N_ret [.bool false] (rC RVs_nil) (⟨rfl, N.pk []⟩)
 refine gF ay (G_skip (N_then (G_seq (G_region (wR 1 [(0, .slice i g.length h), (1, .slice f c.length d), (6, .slice n b.1.length m), (7, .bool b.2), (10, .slice k l.1.length j), (13, iv 1)] V (W_nil (N_then (G_seq (G_region (wR 2 [(0, .slice i g.length h), (1, .slice f c.length d), (6, .slice n b.1.length m), (7, .bool b.2), (10, .slice k l.1.length j), (13, iv 1), (83, .slice k l.1.length j), (84, iv 1)] V ?_))))))))))
 obtain ⟨o, d5, hm⟩ := gx_bind hm
 refine wC 28 #[.slice k l.1.length j, iv 1] ((c_l_markEventS V l.1 k j bg ba 1 (N.hasPick [1]) (N.nodupPick [1] (by kernel_rfl)) d5).mono ?_)
 rintro e_ W ⟨ek, rfl, b6, Q, c1⟩
 have bw := N.callF' [1] [0] (by kernel_rfl) c1
 refine ⟨_, rfl, ?_⟩
 refine wX 10 (.slice k l.1.length j) (.slice k o.2.length j) (by first | rw [Q] | rw [Q]) (wX 83 (.slice k l.1.length j) (.slice k o.2.length j) (by first | rw [Q] | rw [Q]) (wR 1 [(0, .slice i g.length h), (1, .slice f c.length d), (6, .slice n b.1.length m), (7, .bool b.2), (10, .slice k o.2.length j), (13, iv o.1)] W (W_nil (N_then (G_seq (G_region (wR 1 [(0, .slice i g.length h), (1, .slice f c.length d), (6, .slice n b.1.length m), (7, .bool b.2), (10, .slice k o.2.length j), (13, iv o.1), (14, iv 1)] W (W_nil (N_then (G_seq (G_region (wR 2 [(0, .slice i g.length h), (1, .slice f c.length d), (6, .slice n b.1.length m), (7, .bool b.2), (10, .slice k o.2.length j), (13, iv o.1), (14, iv 1), (86, .slice k o.2.length j), (87, iv 1)] W ?_))))))))))))
 obtain ⟨S, d6, hm⟩ := gx_bind hm
 refine wC 29 #[.slice k o.2.length j, iv 1] ((c_l_heldEventS W o.2 k j (b6.rd bw 1 (by kernel_rfl)) 1 d6).mono ?_)
 rintro e_ B ⟨rfl, c2⟩
 have O := bw.call0 c2
 refine ⟨_, rfl, ?_⟩
 refine wR 1 [(0, .slice i g.length h), (1, .slice f c.length d), (6, .slice n b.1.length m), (7, .bool b.2), (10, .slice k o.2.length j), (13, iv o.1), (14, iv S)] B (W_nil (N_then (G_seq (G_seq (G_region (wR 2 [(0, .slice i g.length h), (1, .slice f c.length d), (6, .slice n b.1.length m), (7, .bool b.2), (10, .slice k o.2.length j), (13, iv o.1), (14, iv S), (90, .bool (decide (S < 0)))] B (W_nil (N_then ?_))))))))
 rcases gx_bif hm with ⟨az, hm⟩ | ⟨az, hm⟩
 ·refine gT az (G_seq (G_region (wR 1 [(4, .bool false)] B (W_nil (N_then (G_ret (N_then_ret ?_)))))))
  obtain rfl := Option.some.inj hm
  exact N_ret [.bool false] (rC RVs_nil) (⟨rfl, O.pk []⟩)
 refine gF az (G_skip (N_then (G_seq (G_seq (G_region (wR 3 [(0, .slice i g.length h), (1, .slice f c.length d), (6, .slice n b.1.length m), (7, .bool b.2), (10, .slice k o.2.length j), (13, iv o.1), (93, .bool (S != o.1))] B (W_nil (N_then ?_))))))))
 rcases gx_bif hm with ⟨a0, hm⟩ | ⟨a0, hm⟩
 ·refine gT a0 (G_seq (G_region (wR 1 [(4, .bool false)] B (W_nil (N_then (G_ret (N_then_ret ?_)))))))
  obtain rfl := Option.some.inj hm
  exact N_ret [.bool false] (rC RVs_nil) (⟨rfl, O.pk []⟩)
 refine gF a0 (G_skip (N_then (G_seq (G_region (wR 1 [(1, .slice f c.length d), (6, .slice n b.1.length m), (7, .bool b.2), (10, .slice k o.2.length j), (13, iv o.1), (95, .slice i g.length h)] B ?_)))))
 obtain ⟨bf, d7, hm⟩ := gx_bind hm
 refine wC 19 #[.slice i g.length h] ((c_l_toEventS B g i h (E.mem0 O) d7).mono ?_)
 rintro e_ ck ⟨bc, an, e1, rfl, dk, c3⟩
 have bx := O.call c3
 refine ⟨_, rfl, ?_⟩
 refine wR 1 [(6, .slice n b.1.length m), (7, .bool b.2), (10, .slice k o.2.length j), (13, iv o.1), (96, .slice bc bf.length an), (97, .slice f c.length d)] ck ?_
 obtain ⟨cf, d8, hm⟩ := gx_bind hm
 refine wC 19 #[.slice f c.length d] ((c_l_toEventS ck c f d (F.mem0 bx) d8).mono ?_)
 rintro e_ eo ⟨ca, b3, e2, rfl, dl, c4⟩
 have ai := bx.call c4
 refine ⟨_, rfl, ?_⟩
 obtain ⟨z, d9, hm⟩ := gx_bind hm
 refine wC 35 #[.slice bc bf.length an, .slice ca cf.length b3] ((c_i_MergeRecords eo bf bc an (dk.rd ai 2 (by kernel_rfl)) cf ca b3 (dl.rd ai 3 (by kernel_rfl)) d9).mono ?_)
 rintro e_ bp ⟨R, P, e3, rfl, dm, c5⟩
 have aj := ai.call c5
 refine ⟨_, rfl, ?_⟩
 refine wR 5 [(6, .slice n b.1.length m), (7, .bool b.2), (10, .slice k o.2.length j), (13, iv o.1), (15, .slice R z.1.length P), (16, .bool z.2)] bp (W_nil (N_then (G_seq (G_seq ?_))))
 obtain ⟨ee, dn, dd⟩ := gx_bind hm
 refine G_meet (fun a w' => Mem [] w w' [ek] ∧ Sat Try.f10.ntmps [(10, .slice k o.2.length j), (13, iv o.1), (110, .bool ee)] a) ?_ ?_
 ·have hm := dn
  refine G_region (wR 2 [(7, .bool b.2), (10, .slice k o.2.length j), (13, iv o.1), (16, .bool z.2), (102, .slice R z.1.length P), (103, .slice n b.1.length m)] bp ?_)
  obtain ⟨ej, ea, hm⟩ := gx_bind hm
  refine wC 21 #[.slice R z.1.length P, .slice n b.1.length m] ((c_l_eqEventS bp z.1 R P (dm.rd aj 4 (by kernel_rfl)) b.1 n m (a7.rd aj 0 (by kernel_rfl)) ea).mono ?_)
  rintro e_ bq ⟨rfl, c6⟩
  have bz := aj.call0 c6
  refine ⟨_, rfl, ?_⟩
  refine wR 2 [(7, .bool b.2), (10, .slice k o.2.length j), (13, iv o.1), (16, .bool z.2), (106, .bool (!ej))] bq ?_
  rcases gx_bif hm with ⟨a3, hm⟩ | ⟨a3, hm⟩
  ·refine wK 106 true a3 (wR 4 [(10, .slice k o.2.length j), (13, iv o.1), (110, .bool true)] bq (W_nil ?_))
   obtain rfl := Option.some.inj hm
   exact N_meet fun a ha => ⟨bz.pk [1], ha.s⟩
  refine wK 106 false a3 (wR 4 [(10, .slice k o.2.length j), (13, iv o.1), (110, .bool (!(z.2 == b.2)))] bq (W_nil ?_))
  obtain rfl := Option.some.inj hm
  exact N_meet fun a ha => ⟨bz.pk [1], ha.s⟩
 intro es X ⟨ak, da⟩
 refine N_use da ?_
 have hm := dd
 refine N_then ?_
 rcases gx_bif hm with ⟨a4, hm⟩ | ⟨a4, hm⟩
 ·refine gT a4 (G_seq (G_region (wR 1 [(4, .bool false)] X (W_nil (N_then (G_ret (N_then_ret ?_)))))))
  obtain rfl := Option.some.inj hm
  exact N_ret [.bool false] (rC RVs_nil) (⟨rfl, ak.pk []⟩)
 refine gF a4 (G_skip (N_then (G_seq (G_region (wR 1 [(10, .slice k o.2.length j), (13, iv o.1), (14, iv 1)] X (W_nil (N_then (G_seq (G_region (wR 2 [(13, iv o.1), (14, iv 1), (111, .slice k o.2.length j), (112, iv 1)] X ?_))))))))))
 obtain ⟨T, eb, hm⟩ := gx_bind hm
 refine wC 29 #[.slice k o.2.length j, iv 1] ((c_l_heldEventS X o.2 k j (b6.rd ak 0 (by kernel_rfl)) 1 eb).mono ?_)
 rintro e_ D ⟨rfl, c7⟩
 have al := ak.call0 c7
 refine ⟨_, rfl, ?_⟩
 refine wR 1 [(13, iv o.1), (14, iv T)] D (W_nil (N_then (G_seq (G_seq (G_region (wR 2 [(13, iv o.1), (14, iv T), (115, .bool (decide (T < 0)))] D (W_nil (N_then ?_))))))))
 rcases gx_bif hm with ⟨a5, hm⟩ | ⟨a5, hm⟩
 ·refine gT a5 (G_seq (G_region (wR 1 [(4, .bool false)] D (W_nil (N_then (G_ret (N_then_ret ?_)))))))
  obtain rfl := Option.some.inj hm
  exact N_ret [.bool false] (rC RVs_nil) (⟨rfl, al.pk []⟩)
 refine gF a5 (G_skip (N_then (G_seq (G_seq (G_region (wR 3 [(118, .bool (T != o.1))] D (W_nil (N_then ?_))))))))
 rcases gx_bif hm with ⟨a6, hm⟩ | ⟨a6, hm⟩
 ·refine gT a6 (G_seq (G_region (wR 1 [(4, .bool false)] D (W_nil (N_then (G_ret (N_then_ret ?_)))))))
  obtain rfl := Option.some.inj hm
  exact N_ret [.bool false] (rC RVs_nil) (⟨rfl, al.pk []⟩)
 refine gF a6 (G_skip (N_then (G_seq (G_region (wR 1 [(4, .bool true)] D (W_nil (N_then (G_ret ?_))))))))
 obtain rfl := Option.some.inj hm
 exact N_ret [.bool true] (rC RVs_nil) (⟨rfl, al.pk []⟩)
theorem c_s_CountKinds (w : World) (n : List Event) (g : Option Addr) (o : Nat) (G : rdS encEvent w n g o) {r : (List ByteArray) × (List Int) × Bool} (hm : M.s_CountKinds n = some r) :
  Calls Try.prog 36 #[.slice g n.length o] w fun e w' => ∃ (cv : Option Addr) (cg : Nat) (cy : Seg), ∃ (cw : Option Addr) (ch : Nat) (cz : Seg), e = .returned (.tuple #[.slice cv r.1.length cg, .slice cw r.2.1.length ch, .bool r.2.2]) ∧ ownS Gx.encS r.1 cv cg cy ∧ ownS Gx.encI r.2.1 cw ch cz ∧ Mem [] w w' [cy, cz] := by
 unfold M.s_CountKinds at hm
 refine cE Try.func36 ?_
 have M0 := Mem.refl [] w
 refine G_seq (G_region (wR 3 [(0, .slice g n.length o)] w (W_nil (N_then (G_seq (G_region (wL (E := Gx.encS) ([] : List ByteArray) 0 [] 9 M0 ?_)))))))
 intro ac ab c0 gf cj c7
 refine wL (E := Gx.encI) ([] : List Int) 0 [] 3 c7 ?_
 intro J B bv bw bl bz
 refine wR 2 [(0, .slice g n.length o), (5, .slice ac ([] : List ByteArray).length ab), (6, .slice J ([] : List Int).length B)] bw (W_nil (N_then (G_seq (G_seq (G_region (wR 1 [(0, .slice g n.length o), (5, .slice ac ([] : List ByteArray).length ab), (6, .slice J ([] : List Int).length B), (11, .slice g n.length o)] bw ?_))))))
 obtain ⟨e7, e3, hm⟩ := gx_bind hm
 refine wC 56 #[.slice g n.length o] ((c_s_l22Good bw n g o (G.mem0 bz) e3).mono ?_)
 rintro e_ bx ⟨rfl, c6⟩
 have b0 := bz.call0 c6
 refine ⟨_, rfl, ?_⟩
 refine wR 1 [(0, .slice g n.length o), (5, .slice ac ([] : List ByteArray).length ab), (6, .slice J ([] : List Int).length B), (13, .bool (!e7))] bx (W_nil (N_then ?_))
 rcases gx_bif hm with ⟨bf, hm⟩ | ⟨bf, hm⟩
 ·refine gT bf (G_seq (G_region (wR 5 [(2, .slice ac ([] : List ByteArray).length ab), (3, .slice J ([] : List Int).length B), (4, .bool false)] bx (W_nil (N_then (G_ret (N_then_ret ?_)))))))
  obtain rfl := Option.some.inj hm
  exact N_ret [.slice ac ([] : List ByteArray).length ab, .slice J ([] : List Int).length B, .bool false] (rC (rC (rC RVs_nil))) (⟨ac, ab, c0, J, B, bv, rfl, cj, bl, b0.pk [0, 1]⟩)
 refine gF bf (G_skip (N_then (G_seq (G_seq (G_region (wR 1 [(0, .slice g n.length o), (5, .slice ac ([] : List ByteArray).length ab), (6, .slice J ([] : List Int).length B), (7, iv 0)] bx (W_nil (N_then ?_))))))))
 obtain ⟨U, e4, ep⟩ := gx_bind hm
 refine G_meet (fun a w' => ∃ (ah : Option Addr), ∃ (af : Nat), ∃ (a4 : Seg), ∃ (ai : Option Addr), ∃ (ag : Nat), ∃ (a5 : Seg), ∃ (c1 : Seg), ownS Gx.encS U.1 ah af a4 ∧ ownS Gx.encI U.2.1 ai ag a5 ∧ ownS Gx.encI U.2.2 J B c1 ∧ Mem [] w w' [a4, a5] ∧ Sat Try.f36.ntmps [(5, .slice ah U.1.length af), (6, .slice ai U.2.1.length ag)] a) ?_ ?_
 ·refine G_block (G_while (σ := List ByteArray × List Int × Int × List Int) (ρ := List ByteArray × List Int × List Int) (fun b a w' => ∃ (m : Option Addr), ∃ (k : Nat), ∃ (y : Seg), ∃ (l : Option Addr), ∃ (d : Nat), ∃ (z : Seg), ∃ (a3 : Seg), ownS Gx.encS b.1 m k y ∧ ownS Gx.encI b.2.1 l d z ∧ ownS Gx.encI b.2.2.2 J B a3 ∧ Mem [] w w' [y, z] ∧ Sat Try.f36.ntmps [(0, .slice g n.length o), (5, .slice m b.1.length k), (6, .slice l b.2.1.length d), (7, iv b.2.2.1)] a) e4 (fun a ha => ⟨ac, ab, c0, J, B, bv, bv, cj, bl, bl, b0.pk [0, 1], ha.s⟩) ?_)
  clear hm
  intro b g3 hm e1 f6 c5 ⟨m, k, y, l, d, z, a3, H, I, ck, b1, d9⟩
  refine G_use d9 (G_seq (G_seq (G_region (wR 4 [(0, .slice g n.length o), (5, .slice m b.1.length k), (6, .slice l b.2.1.length d), (7, iv b.2.2.1), (19, .bool (decide (b.2.2.1 < (n.length : Int))))] c5 (W_nil (N_then ?_))))))
  rcases gx_bif hm with ⟨bg, hm⟩ | ⟨bg, hm⟩
  ·refine gT bg (G_skip (N_then (G_seq ?_)))
   obtain ⟨ae, eu, em⟩ := gx_bind hm
   refine G_meet (fun a w' => ∃ (aq : Option Addr), ∃ (ao : Nat), ∃ (a6 : Seg), ∃ (ar : Option Addr), ∃ (ap : Nat), ∃ (a7 : Seg), ∃ (c2 : Seg), ownS Gx.encS ae.1 aq ao a6 ∧ ownS Gx.encI ae.2.1 ar ap a7 ∧ ownS Gx.encI ae.2.2 l d c2 ∧ Mem [] w w' [a6, a7] ∧ Sat Try.f36.ntmps [(0, .slice g n.length o), (5, .slice aq ae.1.length ao), (6, .slice ar ae.2.1.length ap), (7, iv b.2.2.1)] a) ?_ ?_
   ·have hm := eu
    refine G_block (G_seq (G_region (wR 1 [(0, .slice g n.length o), (5, .slice m b.1.length k), (6, .slice l b.2.1.length d), (7, iv b.2.2.1), (8, iv 0)] c5 (W_nil (N_then (G_seq ?_))))))
    obtain ⟨c, e5, er⟩ := gx_bind hm
    refine G_meet (fun a w' => Mem [] w w' [y, z] ∧ Sat Try.f36.ntmps [(0, .slice g n.length o), (5, .slice m b.1.length k), (6, .slice l b.2.1.length d), (7, iv b.2.2.1), (8, iv c)] a) ?_ ?_
    ·refine G_block (G_while (σ := Int) (ρ := Int) (fun t a w' => Mem [] w w' [y, z] ∧ Sat Try.f36.ntmps [(0, .slice g n.length o), (5, .slice m b.1.length k), (6, .slice l b.2.1.length d), (7, iv b.2.2.1), (8, iv t)] a) e5 (fun a ha => ⟨b1.pk [0, 1], ha.s⟩) ?_)
     clear hm
     intro t g4 hm e2 f7 gg ⟨c8, ea⟩
     refine G_use ea (G_seq (G_seq ?_))
     obtain ⟨e6, ex, en⟩ := gx_bind hm
     refine G_meet (fun a w' => Mem [] w w' [y, z] ∧ Sat Try.f36.ntmps [(0, .slice g n.length o), (5, .slice m b.1.length k), (6, .slice l b.2.1.length d), (7, iv b.2.2.1), (8, iv t), (37, .bool e6)] a) ?_ ?_
     ·have hm := ex
      refine G_quiet (by kernel_rfl) (by kernel_rfl) c8 (zR [iv t, .slice m b.1.length k, iv (b.1.length : Int), .bool (decide (t < (b.1.length : Int))), .bool (decide (t < (b.1.length : Int)))] [(0, .slice g n.length o), (5, .slice m b.1.length k), (6, .slice l b.2.1.length d), (7, iv b.2.2.1), (8, iv t), (26, .bool (decide (t < (b.1.length : Int))))] ?_)
      rcases gx_bif hm with ⟨bh, hm⟩ | ⟨bh, hm⟩
      ·refine zK 26 true bh (zR [.slice m b.1.length k, iv t] [(0, .slice g n.length o), (5, .slice m b.1.length k), (6, .slice l b.2.1.length d), (7, iv b.2.2.1), (8, iv t), (26, .bool true), (27, .slice m b.1.length k), (28, iv t)] ?_)
       obtain ⟨av, cm, hm⟩ := gx_bind hm
       refine zV (elemP m (t.toNat * 1)) (fun w_ M_ => (eI (H.rd M_ 0 (by kernel_rfl)) rfl cm)) (zV (.string av) (fun w_ M_ => (eE false 1 0 (t.toNat * 1) (H.rd M_ 0 (by kernel_rfl)) cm)) (zR [.slice g n.length o, iv b.2.2.1] [(0, .slice g n.length o), (5, .slice m b.1.length k), (6, .slice l b.2.1.length d), (7, iv b.2.2.1), (8, iv t), (26, .bool true), (30, .string av), (31, .slice g n.length o), (32, iv b.2.2.1)] ?_))
       obtain ⟨a8, bs, hm⟩ := gx_bind hm
       refine zV (elemP g (b.2.2.1.toNat * 4)) (fun w_ M_ => (eI (G.mem0 M_) rfl bs)) (zV (elemP g (b.2.2.1.toNat * 4 + 2)) (fun w_ M_ => (eF 2 (b.2.2.1.toNat * 4) 2 (G.mem0 M_) bs)) (zV (.string a8.Kind) (fun w_ M_ => (eE false 1 2 (b.2.2.1.toNat * 4 + 2) (G.mem0 M_) bs)) (zR [.bool (Op.bytesLess av.toList a8.Kind.toList), .bool (Op.bytesLess av.toList a8.Kind.toList)] [(0, .slice g n.length o), (5, .slice m b.1.length k), (6, .slice l b.2.1.length d), (7, iv b.2.2.1), (8, iv t), (37, .bool (Op.bytesLess av.toList a8.Kind.toList))] (Z_end fun gh c9 => ?_))))
       obtain rfl := Option.some.inj hm
       exact N_meet fun a ha => ⟨c9.pk [0, 1], ha.s⟩
      refine zK 26 false bh (zR [undef, undef, undef, undef, undef, undef, undef, undef, undef, undef, .bool false] [(0, .slice g n.length o), (5, .slice m b.1.length k), (6, .slice l b.2.1.length d), (7, iv b.2.2.1), (8, iv t), (37, .bool false)] (Z_end fun gi da => ?_))
      obtain rfl := Option.some.inj hm
      exact N_meet fun a ha => ⟨da.pk [0, 1], ha.s⟩
     intro f8 fh ⟨b2, eb⟩
     refine N_use eb ?_
     have hm := en
     refine N_then ?_
     rcases gx_bif hm with ⟨bi, hm⟩ | ⟨bi, hm⟩
     ·refine gT bi (G_skip (N_then (G_block (G_region (wR 3 [(0, .slice g n.length o), (5, .slice m b.1.length k), (6, .slice l b.2.1.length d), (7, iv b.2.2.1), (8, iv (w64 (t + 1)))] fh (W_nil (N_block ?_)))))))
      obtain rfl := Option.some.inj hm
      exact N_loop fun a ha => ⟨_, rfl, b2.pk [0, 1], ha.s⟩
     refine gF bi (G_exit (N_then_exit (N_then_exit (N_block_eq ?_))))
     obtain rfl := Option.some.inj hm
     obtain rfl := e2 _ rfl
     exact N_meet fun a ha => ⟨b2.pk [0, 1], ha.s⟩
    intro f9 gj ⟨db, ec⟩
    refine N_use ec ?_
    have hm := er
    refine N_then (G_seq (G_seq ?_))
    obtain ⟨cu, ey, eo⟩ := gx_bind hm
    refine G_meet (fun a w' => Mem [] w w' [y, z] ∧ Sat Try.f36.ntmps [(0, .slice g n.length o), (5, .slice m b.1.length k), (6, .slice l b.2.1.length d), (7, iv b.2.2.1), (8, iv c), (55, .bool cu)] a) ?_ ?_
    ·have hm := ey
     refine G_quiet (by kernel_rfl) (by kernel_rfl) db (zR [iv c, .slice m b.1.length k, iv (b.1.length : Int), .bool (decide (c < (b.1.length : Int))), .bool (decide (c < (b.1.length : Int)))] [(0, .slice g n.length o), (5, .slice m b.1.length k), (6, .slice l b.2.1.length d), (7, iv b.2.2.1), (8, iv c), (44, .bool (decide (c < (b.1.length : Int))))] ?_)
     rcases gx_bif hm with ⟨bj, hm⟩ | ⟨bj, hm⟩
     ·refine zK 44 true bj (zR [.slice m b.1.length k, iv c] [(0, .slice g n.length o), (5, .slice m b.1.length k), (6, .slice l b.2.1.length d), (7, iv b.2.2.1), (8, iv c), (44, .bool true), (45, .slice m b.1.length k), (46, iv c)] ?_)
      obtain ⟨aw, cn, hm⟩ := gx_bind hm
      refine zV (elemP m (c.toNat * 1)) (fun w_ M_ => (eI (H.rd M_ 0 (by kernel_rfl)) rfl cn)) (zV (.string aw) (fun w_ M_ => (eE false 1 0 (c.toNat * 1) (H.rd M_ 0 (by kernel_rfl)) cn)) (zR [.slice g n.length o, iv b.2.2.1] [(0, .slice g n.length o), (5, .slice m b.1.length k), (6, .slice l b.2.1.length d), (7, iv b.2.2.1), (8, iv c), (44, .bool true), (48, .string aw), (49, .slice g n.length o), (50, iv b.2.2.1)] ?_))
      obtain ⟨a9, bt, hm⟩ := gx_bind hm
      refine zV (elemP g (b.2.2.1.toNat * 4)) (fun w_ M_ => (eI (G.mem0 M_) rfl bt)) (zV (elemP g (b.2.2.1.toNat * 4 + 2)) (fun w_ M_ => (eF 2 (b.2.2.1.toNat * 4) 2 (G.mem0 M_) bt)) (zV (.string a9.Kind) (fun w_ M_ => (eE false 1 2 (b.2.2.1.toNat * 4 + 2) (G.mem0 M_) bt)) (zR [.bool (aw.toList == a9.Kind.toList), .bool (aw.toList == a9.Kind.toList)] [(0, .slice g n.length o), (5, .slice m b.1.length k), (6, .slice l b.2.1.length d), (7, iv b.2.2.1), (8, iv c), (55, .bool (aw.toList == a9.Kind.toList))] (Z_end fun gk dc => ?_))))
      obtain rfl := Option.some.inj hm
      exact N_meet fun a ha => ⟨dc.pk [0, 1], ha.s⟩
     refine zK 44 false bj (zR [undef, undef, undef, undef, undef, undef, undef, undef, undef, undef, .bool false] [(0, .slice g n.length o), (5, .slice m b.1.length k), (6, .slice l b.2.1.length d), (7, iv b.2.2.1), (8, iv c), (55, .bool false)] (Z_end fun gl dd => ?_))
     obtain rfl := Option.some.inj hm
     exact N_meet fun a ha => ⟨dd.pk [0, 1], ha.s⟩
    intro ga au ⟨aj, ed⟩
    refine N_use ed ?_
    have hm := eo
    refine N_then ?_
    rcases gx_bif hm with ⟨bk, hm⟩ | ⟨bk, hm⟩
    ·refine gT bk (G_seq (G_region (wR 4 [(0, .slice g n.length o), (5, .slice m b.1.length k), (6, .slice l b.2.1.length d), (7, iv b.2.2.1), (56, .slice l b.2.1.length d), (57, iv c), (58, .slice l b.2.1.length d), (59, iv c)] au ?_)))
     obtain ⟨ad, co, hm⟩ := gx_bind hm
     refine wV (elemP l (c.toNat * 1)) au (eI (I.rd aj 1 (by kernel_rfl)) rfl co) (wV (iv ad) au (eE false 1 0 (c.toNat * 1) (I.rd aj 1 (by kernel_rfl)) co) (wR 1 [(0, .slice g n.length o), (5, .slice m b.1.length k), (6, .slice l b.2.1.length d), (7, iv b.2.2.1), (56, .slice l b.2.1.length d), (57, iv c), (62, iv (w64 (ad + 1)))] au ?_))
     obtain ⟨f5, cp, hm⟩ := gx_bind hm
     refine wV (elemP l (c.toNat * 1)) au (eI (I.rd aj 1 (by kernel_rfl)) rfl cp) (wE false 1 c.toNat 0 (c.toNat * 1) f5 (w64 (ad + 1)) (iv (w64 (ad + 1))) 1 aj I (gxIdx_spec cp).2 ?_)
     intro gm c3 cl de
     refine wX 6 (.slice l b.2.1.length d) (.slice l (b.2.1.set c.toNat (w64 (ad + 1))).length d) (by rw [@List.length_set _ b.2.1 c.toNat (w64 (ad + 1))]) (wX 56 (.slice l b.2.1.length d) (.slice l (b.2.1.set c.toNat (w64 (ad + 1))).length d) (by rw [@List.length_set _ b.2.1 c.toNat (w64 (ad + 1))]) (W_nil (N_then (G_exit (N_then_exit (N_block_eq ?_))))))
     obtain rfl := Option.some.inj hm
     exact N_meet fun a ha => ⟨m, k, y, l, d, c3, c3, H, cl, cl, de.pk [0, 1], ha.s⟩
    refine gF bk (G_skip (N_then (G_seq ?_)))
    obtain ⟨ba, cq, hm⟩ := gx_bind hm
    obtain ⟨ak, eg, hm⟩ := gx_bind hm
    obtain ⟨A, bu, hm⟩ := gx_bind hm
    obtain ⟨al, eh, hm⟩ := gx_bind hm
    obtain ⟨bb, cr, hm⟩ := gx_bind hm
    refine G_sub [(0, .slice g n.length o), (5, .slice m b.1.length k), (6, .slice l b.2.1.length d), (7, iv b.2.2.1), (8, iv c), (55, .bool cu)] (by kernel_rfl) (G_dagL 15 [[], [], [], [1, 2], [0, 3], [], [], [5, 6], [7], [8], [9], [4, 10], [], [], [12, 13]] [[], [], [], [], [0], [], [], [], [], [], [], [4], [], [], []] [[], [], [], [], [], [], [], [], [], [], [], [10], [], [], []] [[], [], [], [], [], [], [], [], [], [], [], [], [], [], []] [[], [], [], [], [], [], [], [], [], [], [], [], [], [], []] [[], [], [], [], [], [], [], [], [], [], [], [], [], [], []] (fun _ => []) (fun i => ([fun f v s => ∃ (V : Option Addr) (N : Nat), v = (.slice V ([] : List ByteArray).length N : Value) ∧ ownS Gx.encS ([] : List ByteArray) V N s, fun f v s => v = (.slice m b.1.length k : Value) ∧ s = [], fun f v s => v = (iv c : Value) ∧ s = [], fun f v s => v = (.slice (subP m (0 : Int).toNat k 1) ba.length (k - (0 : Int).toNat) : Value) ∧ s = [], fun f v s => ∃ (W : Option Addr) (O : Nat), v = (.slice W ak.length O : Value) ∧ ownS Gx.encS ak W O s, fun f v s => v = (.slice g n.length o : Value) ∧ s = [], fun f v s => v = (iv b.2.2.1 : Value) ∧ s = [], fun f v s => v = (elemP g (b.2.2.1.toNat * 4) : Value) ∧ s = [], fun f v s => v = (elemP g (b.2.2.1.toNat * 4 + 2) : Value) ∧ s = [], fun f v s => v = (.string A.Kind : Value) ∧ s = [], fun f v s => ∃ (K : Option Addr) (C : Nat), v = (.slice K [A.Kind].length C : Value) ∧ ownS Gx.encS [A.Kind] K C s, fun f v s => ∃ (X : Option Addr) (P : Nat), v = (.slice X al.length P : Value) ∧ ownS Gx.encS al X P s, fun f v s => v = (.slice m b.1.length k : Value) ∧ s = [], fun f v s => v = (iv c : Value) ∧ s = [], fun f v s => v = (.slice (subP m c.toNat k 1) bb.length (k - c.toNat) : Value) ∧ s = []] : List ((Nat → Value) → Value → Seg → Prop)).getD i (fun _ _ _ => False)) (fun j f v => ∃ s, (fun i => ([fun f v s => ∃ (V : Option Addr) (N : Nat), v = (.slice V ([] : List ByteArray).length N : Value) ∧ ownS Gx.encS ([] : List ByteArray) V N s, fun f v s => v = (.slice m b.1.length k : Value) ∧ s = [], fun f v s => v = (iv c : Value) ∧ s = [], fun f v s => v = (.slice (subP m (0 : Int).toNat k 1) ba.length (k - (0 : Int).toNat) : Value) ∧ s = [], fun f v s => ∃ (W : Option Addr) (O : Nat), v = (.slice W ak.length O : Value) ∧ ownS Gx.encS ak W O s, fun f v s => v = (.slice g n.length o : Value) ∧ s = [], fun f v s => v = (iv b.2.2.1 : Value) ∧ s = [], fun f v s => v = (elemP g (b.2.2.1.toNat * 4) : Value) ∧ s = [], fun f v s => v = (elemP g (b.2.2.1.toNat * 4 + 2) : Value) ∧ s = [], fun f v s => v = (.string A.Kind : Value) ∧ s = [], fun f v s => ∃ (K : Option Addr) (C : Nat), v = (.slice K [A.Kind].length C : Value) ∧ ownS Gx.encS [A.Kind] K C s, fun f v s => ∃ (X : Option Addr) (P : Nat), v = (.slice X al.length P : Value) ∧ ownS Gx.encS al X P s, fun f v s => v = (.slice m b.1.length k : Value) ∧ s = [], fun f v s => v = (iv c : Value) ∧ s = [], fun f v s => v = (.slice (subP m c.toNat k 1) bb.length (k - c.toNat) : Value) ∧ s = []] : List ((Nat → Value) → Value → Seg → Prop)).getD i (fun _ _ _ => False)) j f v s) [] [10, 11, 14] [10, 11] (fun _ _ _ s h => ⟨s, h⟩) (by kernel_rfl) (by kernel_rfl) (aj.preNil 15) (by kernel_rfl) (by kernel_rfl) (by kernel_rfl) (by kernel_rfl) (allOb_cons ?_ (allOb_cons ?_ (allOb_cons ?_ (allOb_cons ?_ (allOb_cons ?_ (allOb_cons ?_ (allOb_cons ?_ (allOb_cons ?_ (allOb_cons ?_ (allOb_cons ?_ (allOb_cons ?_ (allOb_cons ?_ (allOb_cons ?_ (allOb_cons ?_ (allOb_cons ?_ allOb_nil))))))))))))))) ?_)
    ·intro q u
     intro R gn df
     refine wL (E := Gx.encS) ([] : List ByteArray) 0 [] 9 df ?_
     intro V N e8 go bm dg
     exact W_nil (oE (.slice V ([] : List ByteArray).length N) e8 ⟨V, N, rfl, bm⟩ (Mem.mid dg))
    ·intro q u
     intro R fi dh
     exact wR 1 [(65, .slice m b.1.length k)] fi (W_nil (oE (.slice m b.1.length k) [] ⟨by kernel_rfl, rfl⟩ dh))
    ·intro q u
     intro R fj di
     exact wR 1 [(66, iv c)] fj (W_nil (oE (iv c) [] ⟨by kernel_rfl, rfl⟩ di))
    ·intro q u
     intro v1_ hb1_
     obtain ⟨rfl, _⟩ := hb1_
     intro v2_ hb2_
     obtain ⟨rfl, _⟩ := hb2_
     intro R fk b3
     exact wV (.slice (subP m (0 : Int).toNat k 1) ba.length (k - (0 : Int).toNat)) fk (E_slice (E := Gx.encS) _ _ _ _ b.1.length 0 c rfl (by kernel_rfl) (Or.inl ⟨rfl, rfl⟩) (Or.inr ⟨_, rfl, by kernel_rfl⟩) (by kernel_rfl) (H.rd b3 0 (by kernel_rfl)) rfl cq) (W_nil (oE (.slice (subP m (0 : Int).toNat k 1) ba.length (k - (0 : Int).toNat)) [] ⟨by kernel_rfl, rfl⟩ b3))
    ·intro q u
     intro v0_ hb0_
     obtain ⟨V, N, rfl, bm⟩ := hb0_
     intro v3_ hb3_
     obtain ⟨rfl, _⟩ := hb3_
     intro R gp b4
     refine wA 16 [.string ByteArray.empty] 3 b4 bm ((H.rd b4 0 (by kernel_rfl)).sliceM cq) eg ?_
     intro W O e9 gq bn dj
     exact W_nil (oE (.slice W ak.length O) e9 ⟨W, O, rfl, bn⟩ (Mem.takeOver dj))
    ·intro q u
     intro R fl dk
     exact wR 1 [(69, .slice g n.length o)] fl (W_nil (oE (.slice g n.length o) [] ⟨by kernel_rfl, rfl⟩ dk))
    ·intro q u
     intro R fm dl
     exact wR 1 [(70, iv b.2.2.1)] fm (W_nil (oE (iv b.2.2.1) [] ⟨by kernel_rfl, rfl⟩ dl))
    ·intro q u
     intro v5_ hb5_
     obtain ⟨rfl, _⟩ := hb5_
     intro v6_ hb6_
     obtain ⟨rfl, _⟩ := hb6_
     intro R fn b5
     exact wV (elemP g (b.2.2.1.toNat * 4)) fn (eI (G.mem0 b5) rfl bu) (W_nil (oE (elemP g (b.2.2.1.toNat * 4)) [] ⟨by kernel_rfl, rfl⟩ b5))
    ·intro q u
     intro v7_ hb7_
     obtain ⟨rfl, _⟩ := hb7_
     intro R fo b6
     exact wV (elemP g (b.2.2.1.toNat * 4 + 2)) fo (eF 2 (b.2.2.1.toNat * 4) 2 (G.mem0 b6) bu) (W_nil (oE (elemP g (b.2.2.1.toNat * 4 + 2)) [] ⟨by kernel_rfl, rfl⟩ b6))
    ·intro q u
     intro v8_ hb8_
     obtain ⟨rfl, _⟩ := hb8_
     intro R fp b7
     exact wV (.string A.Kind) fp (eE false 1 2 (b.2.2.1.toNat * 4 + 2) (G.mem0 b7) bu) (W_nil (oE (.string A.Kind) [] ⟨by kernel_rfl, rfl⟩ b7))
    ·intro q u
     intro v9_ hb9_
     obtain ⟨rfl, _⟩ := hb9_
     intro R gr dm
     refine wL (E := Gx.encS) [A.Kind] 1 [.string A.Kind] 9 dm ?_
     intro K C fa gs ay dn
     exact W_nil (oE (.slice K [A.Kind].length C) fa ⟨K, C, rfl, ay⟩ (Mem.mid dn))
    ·intro q u
     intro v4_ hb4_
     obtain ⟨W, O, rfl, bn⟩ := hb4_
     intro v10_ hb10_
     obtain ⟨K, C, rfl, ay⟩ := hb10_
     intro R gt b8
     refine wA 16 [.string ByteArray.empty] 3 b8 bn (ay.rd b8 4 (by kernel_rfl)) eh ?_
     intro X P fb gu bo dp
     exact W_nil (oE (.slice X al.length P) fb ⟨X, P, rfl, bo⟩ (Mem.takeOver dp))
    ·intro q u
     intro R fq dq
     exact wR 1 [(76, .slice m b.1.length k)] fq (W_nil (oE (.slice m b.1.length k) [] ⟨by kernel_rfl, rfl⟩ dq))
    ·intro q u
     intro R fr dr
     exact wR 1 [(77, iv c)] fr (W_nil (oE (iv c) [] ⟨by kernel_rfl, rfl⟩ dr))
    ·intro q u
     intro v12_ hb12_
     obtain ⟨rfl, _⟩ := hb12_
     intro v13_ hb13_
     obtain ⟨rfl, _⟩ := hb13_
     intro R fs b9
     exact wV (.slice (subP m c.toNat k 1) bb.length (k - c.toNat)) fs (E_slice (E := Gx.encS) _ _ _ _ b.1.length c (b.1.length : Int) rfl (by kernel_rfl) (Or.inr ⟨_, rfl, by kernel_rfl⟩) (Or.inl ⟨rfl, rfl⟩) (by kernel_rfl) (H.rd b9 0 (by kernel_rfl)) rfl cr) (W_nil (oE (.slice (subP m c.toNat k 1) bb.length (k - c.toNat)) [] ⟨by kernel_rfl, rfl⟩ b9))
    intro q u
    intro v10_ hb10_
    obtain ⟨K, C, rfl, ay⟩ := hb10_
    intro v11_ hb11_
    obtain ⟨X, P, rfl, bo⟩ := hb11_
    intro v14_ hb14_
    obtain ⟨rfl, _⟩ := hb14_
    intro ft ds
    have ca : Mem [] w ft [y, z, (q 10), (q 11)] := ds
    obtain ⟨be, ei, hm⟩ := gx_bind hm
    refine wA 16 [.string ByteArray.empty] 3 ca bo ((H.rd ca 0 (by kernel_rfl)).sliceM cr) ei ?_
    intro a0 ax c4 fu ez dt
    refine wR 1 [(0, .slice g n.length o), (5, .slice a0 be.length ax), (6, .slice l b.2.1.length d), (7, iv b.2.2.1), (8, iv c)] fu (W_nil (N_then ?_))
    obtain ⟨bc, cs, hm⟩ := gx_bind hm
    obtain ⟨am, ej, hm⟩ := gx_bind hm
    obtain ⟨an, ek, hm⟩ := gx_bind hm
    obtain ⟨bd, ct, hm⟩ := gx_bind hm
    refine G_sub [(0, .slice g n.length o), (5, .slice a0 be.length ax), (6, .slice l b.2.1.length d), (7, iv b.2.2.1), (8, iv c)] (by kernel_rfl) (G_dagL 10 [[], [], [], [1, 2], [0, 3], [], [4, 5], [], [], [7, 8]] [[], [], [], [], [0], [], [4], [], [], []] [[], [], [], [], [], [], [5], [], [], []] [[], [], [], [], [], [], [], [], [], []] [[], [], [], [], [], [], [], [], [], []] [[], [], [], [], [], [], [], [], [], []] (fun _ => []) (fun i => ([fun f v s => ∃ (Y : Option Addr) (Q : Nat), v = (.slice Y ([] : List Int).length Q : Value) ∧ ownS Gx.encI ([] : List Int) Y Q s, fun f v s => v = (.slice l b.2.1.length d : Value) ∧ s = [], fun f v s => v = (iv c : Value) ∧ s = [], fun f v s => v = (.slice (subP l (0 : Int).toNat d 1) bc.length (d - (0 : Int).toNat) : Value) ∧ s = [], fun f v s => ∃ (Z : Option Addr) (S : Nat), v = (.slice Z am.length S : Value) ∧ ownS Gx.encI am Z S s, fun f v s => ∃ (L : Option Addr) (D : Nat), v = (.slice L [1].length D : Value) ∧ ownS Gx.encI [1] L D s, fun f v s => ∃ (aa : Option Addr) (T : Nat), v = (.slice aa an.length T : Value) ∧ ownS Gx.encI an aa T s, fun f v s => v = (.slice l b.2.1.length d : Value) ∧ s = [], fun f v s => v = (iv c : Value) ∧ s = [], fun f v s => v = (.slice (subP l c.toNat d 1) bd.length (d - c.toNat) : Value) ∧ s = []] : List ((Nat → Value) → Value → Seg → Prop)).getD i (fun _ _ _ => False)) (fun j f v => ∃ s, (fun i => ([fun f v s => ∃ (Y : Option Addr) (Q : Nat), v = (.slice Y ([] : List Int).length Q : Value) ∧ ownS Gx.encI ([] : List Int) Y Q s, fun f v s => v = (.slice l b.2.1.length d : Value) ∧ s = [], fun f v s => v = (iv c : Value) ∧ s = [], fun f v s => v = (.slice (subP l (0 : Int).toNat d 1) bc.length (d - (0 : Int).toNat) : Value) ∧ s = [], fun f v s => ∃ (Z : Option Addr) (S : Nat), v = (.slice Z am.length S : Value) ∧ ownS Gx.encI am Z S s, fun f v s => ∃ (L : Option Addr) (D : Nat), v = (.slice L [1].length D : Value) ∧ ownS Gx.encI [1] L D s, fun f v s => ∃ (aa : Option Addr) (T : Nat), v = (.slice aa an.length T : Value) ∧ ownS Gx.encI an aa T s, fun f v s => v = (.slice l b.2.1.length d : Value) ∧ s = [], fun f v s => v = (iv c : Value) ∧ s = [], fun f v s => v = (.slice (subP l c.toNat d 1) bd.length (d - c.toNat) : Value) ∧ s = []] : List ((Nat → Value) → Value → Seg → Prop)).getD i (fun _ _ _ => False)) j f v s) [] [5, 6, 9] [5, 6] (fun _ _ _ s h => ⟨s, h⟩) (by kernel_rfl) (by kernel_rfl) (dt.preNil 10) (by kernel_rfl) (by kernel_rfl) (by kernel_rfl) (by kernel_rfl) (allOb_cons ?_ (allOb_cons ?_ (allOb_cons ?_ (allOb_cons ?_ (allOb_cons ?_ (allOb_cons ?_ (allOb_cons ?_ (allOb_cons ?_ (allOb_cons ?_ (allOb_cons ?_ allOb_nil)))))))))) ?_)
    ·intro x F
     intro R gv du
     refine wL (E := Gx.encI) ([] : List Int) 0 [] 3 du ?_
     intro Y Q fc gw bp dv
     exact W_nil (oE (.slice Y ([] : List Int).length Q) fc ⟨Y, Q, rfl, bp⟩ (Mem.mid dv))
    ·intro x F
     intro R fv dw
     exact wR 1 [(81, .slice l b.2.1.length d)] fv (W_nil (oE (.slice l b.2.1.length d) [] ⟨by kernel_rfl, rfl⟩ dw))
    ·intro x F
     intro R fw dx
     exact wR 1 [(82, iv c)] fw (W_nil (oE (iv c) [] ⟨by kernel_rfl, rfl⟩ dx))
    ·intro x F
     intro v1_ hb1_
     obtain ⟨rfl, _⟩ := hb1_
     intro v2_ hb2_
     obtain ⟨rfl, _⟩ := hb2_
     intro R fx cb
     exact wV (.slice (subP l (0 : Int).toNat d 1) bc.length (d - (0 : Int).toNat)) fx (E_slice (E := Gx.encI) _ _ _ _ b.2.1.length 0 c rfl (by kernel_rfl) (Or.inl ⟨rfl, rfl⟩) (Or.inr ⟨_, rfl, by kernel_rfl⟩) (by kernel_rfl) (I.rd cb 1 (by kernel_rfl)) rfl cs) (W_nil (oE (.slice (subP l (0 : Int).toNat d 1) bc.length (d - (0 : Int).toNat)) [] ⟨by kernel_rfl, rfl⟩ cb))
    ·intro x F
     intro v0_ hb0_
     obtain ⟨Y, Q, rfl, bp⟩ := hb0_
     intro v3_ hb3_
     obtain ⟨rfl, _⟩ := hb3_
     intro R gx cc
     refine wA 8 [iv 0] 5 cc bp ((I.rd cc 1 (by kernel_rfl)).sliceM cs) ej ?_
     intro Z S fd gy bq dy
     exact W_nil (oE (.slice Z am.length S) fd ⟨Z, S, rfl, bq⟩ (Mem.takeOver dy))
    ·intro x F
     intro R gz dz
     refine wL (E := Gx.encI) [1] 1 [iv 1] 3 dz ?_
     intro L D fe g0 az d0
     exact W_nil (oE (.slice L [1].length D) fe ⟨L, D, rfl, az⟩ (Mem.mid d0))
    ·intro x F
     intro v4_ hb4_
     obtain ⟨Z, S, rfl, bq⟩ := hb4_
     intro v5_ hb5_
     obtain ⟨L, D, rfl, az⟩ := hb5_
     intro R g1 cd
     refine wA 8 [iv 0] 5 cd bq (az.rd cd 6 (by kernel_rfl)) ek ?_
     intro aa T ff g2 br d1
     exact W_nil (oE (.slice aa an.length T) ff ⟨aa, T, rfl, br⟩ (Mem.takeOver d1))
    ·intro x F
     intro R fy d2
     exact wR 1 [(87, .slice l b.2.1.length d)] fy (W_nil (oE (.slice l b.2.1.length d) [] ⟨by kernel_rfl, rfl⟩ d2))
    ·intro x F
     intro R fz d3
     exact wR 1 [(88, iv c)] fz (W_nil (oE (iv c) [] ⟨by kernel_rfl, rfl⟩ d3))
    ·intro x F
     intro v7_ hb7_
     obtain ⟨rfl, _⟩ := hb7_
     intro v8_ hb8_
     obtain ⟨rfl, _⟩ := hb8_
     intro R f0 ce
     exact wV (.slice (subP l c.toNat d 1) bd.length (d - c.toNat)) f0 (E_slice (E := Gx.encI) _ _ _ _ b.2.1.length c (b.2.1.length : Int) rfl (by kernel_rfl) (Or.inr ⟨_, rfl, by kernel_rfl⟩) (Or.inl ⟨rfl, rfl⟩) (by kernel_rfl) (I.rd ce 1 (by kernel_rfl)) rfl ct) (W_nil (oE (.slice (subP l c.toNat d 1) bd.length (d - c.toNat)) [] ⟨by kernel_rfl, rfl⟩ ce))
    intro x F
    intro v5_ hb5_
    obtain ⟨L, D, rfl, az⟩ := hb5_
    intro v6_ hb6_
    obtain ⟨aa, T, rfl, br⟩ := hb6_
    intro v9_ hb9_
    obtain ⟨rfl, _⟩ := hb9_
    intro f1 d4
    have cf : Mem [] w f1 [y, z, (q 10), c4, (x 5), (x 6)] := d4
    obtain ⟨d8, el, hm⟩ := gx_bind hm
    refine wA 8 [iv 0] 5 cf br ((I.rd cf 1 (by kernel_rfl)).sliceM ct) el ?_
    intro cx ci fg f2 e0 d5
    refine wR 1 [(0, .slice g n.length o), (5, .slice a0 be.length ax), (6, .slice cx d8.length ci), (7, iv b.2.2.1)] f2 (W_nil (N_block ?_))
    obtain rfl := Option.some.inj hm
    exact N_meet fun a ha => ⟨a0, ax, c4, cx, ci, fg, z, ez, e0, I, d5.pk [3, 5], ha.s⟩
   intro gb f3 ⟨aq, ao, a6, ar, ap, a7, c2, ev, ew, ge, d6, ee⟩
   refine N_use ee ?_
   have hm := em
   refine N_then (G_region (wR 3 [(0, .slice g n.length o), (5, .slice aq ae.1.length ao), (6, .slice ar ae.2.1.length ap), (7, iv (w64 (b.2.2.1 + 1)))] f3 (W_nil ?_)))
   obtain rfl := Option.some.inj hm
   exact N_loop fun a ha => ⟨_, rfl, aq, ao, a6, ar, ap, a7, a3, ev, ew, ck, d6.pk [0, 1], ha.s⟩
  refine gF bg (G_exit (N_then_exit (N_then_exit (N_block_eq ?_))))
  obtain rfl := Option.some.inj hm
  obtain rfl := e1 _ rfl
  exact N_meet fun a ha => ⟨m, k, y, l, d, z, a3, H, I, ck, b1.pk [0, 1], ha.s⟩
 intro gc f4 ⟨ah, af, a4, ai, ag, a5, c1, es, et, gd, d7, ef⟩
 refine N_use ef ?_
 have hm := ep
 refine N_then (G_seq (G_region (wR 5 [(2, .slice ah U.1.length af), (3, .slice ai U.2.1.length ag), (4, .bool true)] f4 (W_nil (N_then (G_ret ?_))))))
 obtain rfl := Option.some.inj hm
 exact N_ret [.slice ah U.1.length af, .slice ai U.2.1.length ag, .bool true] (rC (rC (rC RVs_nil))) (⟨ah, af, a4, ai, ag, a5, rfl, es, et, d7.pk [0, 1]⟩)
theorem c_slices_Sort_70 (w : World) (b : List ByteArray) (d : Option Addr) (c : Nat) (a : Seg) (g : ownS Gx.encS b d c a) (hA : ∀ q ∈ List.flatten [a], w.heap[q.1]? = some q.2) (hN : (idsOf [a]).Nodup) {r : (List ByteArray)} (hm : M.slices_Sort_70 b = some r) :
  Calls Try.prog 70 #[.slice d b.length c] w fun e w' => ∃ (f : Seg), e = .returned (.tuple #[]) ∧ ownS Gx.encS r d c f ∧ r.length = b.length ∧ Mem (idsOf [a]) w w' [f] := by
 unfold M.slices_Sort_70 at hm
 rcases gx_bif hm with ⟨h, hm⟩ | ⟨h, hm⟩
 ·obtain rfl := Option.some.inj hm
  exact sortS_run Try.slices_Sort_string Try.slices_Sort_string_none w b d c a g hA hN (of_decide_eq_true h)
 cases hm
theorem c_slices_Compact_71 (w : World) (d : List ByteArray) (b : Option Addr) (a : Nat) (c : Seg) (j : ownS Gx.encS d b a c) (hA : ∀ q ∈ List.flatten [c], w.heap[q.1]? = some q.2) (hN : (idsOf [c]).Nodup) {r : (List ByteArray) × (List ByteArray)} (hm : M.slices_Compact_71 d = some r) :
  Calls Try.prog 71 #[.slice b d.length a] w fun e w' => ∃ (i : Seg), ∃ (g : Option Addr) (f : Nat), e = .returned (.slice g r.1.length f) ∧ ownS Gx.encS r.2 b a i ∧ r.2.length = d.length ∧ viewS 1 r.2 b a g f r.1 ∧ Mem (idsOf [c]) w w' [i] := by
 unfold M.slices_Compact_71 at hm
 rcases gx_bif hm with ⟨h, hm⟩ | ⟨h, hm⟩
 ·obtain rfl := Option.some.inj hm
  exact compS_run Try.slices_Compact_string Try.slices_Compact_string_empty w d b a c j hA hN (of_decide_eq_true h)
 cases hm
theorem c_i_CountKinds_1 (w : World) (a : Event) (c : ByteArray) (d : Nat) (h : w.heap[d]? = some (.cells ⟨[.string c]⟩ 9 (0, 0))) {r : Bool} (hm : M.i_CountKinds_1 a c = some r) :
  Calls Try.prog 72 #[.agg #[iv a.Tick, iv a.Guest, .string a.Kind, iv a.Value], pB d 0] w fun e w' => e = .returned (.bool r) ∧ Mem [] w w' [] := by
 unfold M.i_CountKinds_1 at hm
 refine cE Try.func72 ?_
 have M0 := Mem.refl [] w
 refine G_seq (G_region (wN (.cells ⟨[iv a.Tick, iv a.Guest, .string a.Kind, iv a.Value]⟩ 26 (0, 0)) M0 ?_))
 intro g b f
 refine wR 1 [(1, pB d 0), (2, pB g 0)] b (W_nil (N_then (G_seq (G_region (wR 1 [(1, pB d 0), (4, pB g 2)] b (wV (.string a.Kind) b (eL false 1 2 (f.blk 0 rfl)) (wV (.string c) b (eL false 1 0 (f.ro h)) (wR 2 [(3, .bool (a.Kind.toList == c.toList))] b (W_nil (N_then (G_ret ?_)))))))))))
 obtain rfl := Option.some.inj hm
 exact N_ret [.bool (a.Kind.toList == c.toList)] (rC RVs_nil) (⟨rfl, f.pk []⟩)
theorem c_i_eventsWhere_1__i_CountKinds_1 (w : World) (a : Event) (g : ByteArray) (b : Nat) (l : w.heap[b]? = some (.cells ⟨[.string g]⟩ 9 (0, 0))) (f : Nat) (m : w.heap[f]? = some (.cells ⟨[.func (.func 72) #[] #[pB b 0]]⟩ 25 (0, 0))) {r : Bool} (hm : M.i_eventsWhere_1__i_CountKinds_1 a g = some r) :
  Calls Try.prog 82 #[.agg #[iv a.Tick, iv a.Guest, .string a.Kind, iv a.Value], pB f 0] w fun e w' => e = .returned (.bool r) ∧ Mem [] w w' [] := by
 unfold M.i_eventsWhere_1__i_CountKinds_1 at hm
 refine cE Try.func82 ?_
 have M0 := Mem.refl [] w
 refine G_seq (G_region (wN (.cells ⟨[iv a.Tick, iv a.Guest, .string a.Kind, iv a.Value]⟩ 26 (0, 0)) M0 ?_))
 intro k d c
 refine wR 1 [(1, pB f 0), (2, pB k 0)] d (W_nil (N_then (G_seq (G_region (wV (.func (.func 72) #[] #[pB b 0]) d (eL false 1 0 (c.ro m)) (wV (.agg #[iv a.Tick, iv a.Guest, .string a.Kind, iv a.Value]) d (eL true 4 0 (c.blk 0 rfl)) ?_))))))
 obtain ⟨h, n, hm⟩ := gx_bind hm
 refine wC 72 #[.agg #[iv a.Tick, iv a.Guest, .string a.Kind, iv a.Value], pB b 0] ((c_i_CountKinds_1 d a g b (c.ro l) n).mono ?_)
 rintro e_ o ⟨rfl, i⟩
 have j := c.call0 i
 refine ⟨_, rfl, ?_⟩
 refine wR 2 [(3, .bool (!h))] o (W_nil (N_then (G_ret ?_)))
 obtain rfl := Option.some.inj hm
 exact N_ret [.bool (!h)] (rC RVs_nil) (⟨rfl, j.pk []⟩)
theorem c_slices_IndexFunc_59__i_eventsWhere_1__i_CountKinds_1 (w : World) (b : List Event) (f : Option Addr) (g : Nat) (q : rdS encEvent w b f g) (n : ByteArray) (k : Nat) (D : w.heap[k]? = some (.cells ⟨[.string n]⟩ 9 (0, 0))) (d : Nat) (E : w.heap[d]? = some (.cells ⟨[.func (.func 72) #[] #[pB k 0]]⟩ 25 (0, 0))) {r : Int} (hm : M.slices_IndexFunc_59__i_eventsWhere_1__i_CountKinds_1 b n = some r) :
  Calls Try.prog 59 #[.slice f b.length g, .func (.func 82) #[] #[pB d 0]] w fun e w' => e = .returned (iv r) ∧ Mem [] w w' [] := by
 unfold M.slices_IndexFunc_59__i_eventsWhere_1__i_CountKinds_1 at hm
 refine cE Try.func59 ?_
 have M0 := Mem.refl [] w
 refine G_seq (G_region (wR 1 [(0, .slice f b.length g), (1, .func (.func 82) #[] #[pB d 0])] w (W_nil (N_then (G_seq (G_seq (G_region (wR 3 [(0, .slice f b.length g), (1, .func (.func 82) #[] #[pB d 0]), (7, iv (b.length : Int)), (8, iv 0)] w (W_nil (N_then ?_))))))))))
 obtain ⟨H, G, t⟩ := gx_bind hm
 refine G_meet (fun a w' => ∃ (x : Unit), H = .inl x ∧ Mem [] w w' [] ∧ Sat Try.f59.ntmps [] a) ?_ ?_
 ·refine G_block (G_while (σ := Int) (ρ := (Unit) ⊕ (Int)) (fun c a w' => Mem [] w w' [] ∧ Sat Try.f59.ntmps [(0, .slice f b.length g), (1, .func (.func 82) #[] #[pB d 0]), (7, iv (b.length : Int)), (8, iv c)] a) G (fun a ha => ⟨M0.pk [], ha.s⟩) ?_)
  clear hm
  intro c N hm u J j ⟨i, B⟩
  refine G_use B (G_seq (G_region (wR 1 [(0, .slice f b.length g), (1, .func (.func 82) #[] #[pB d 0]), (7, iv (b.length : Int)), (8, iv c), (9, .bool (decide (c < (b.length : Int))))] j (W_nil (N_then (G_seq ?_))))))
  rcases gx_bif hm with ⟨l, hm⟩ | ⟨l, hm⟩
  ·refine gT l (G_skip (N_then (G_seq (G_block (G_seq (G_region (wR 2 [(0, .slice f b.length g), (1, .func (.func 82) #[] #[pB d 0]), (5, iv c), (7, iv (b.length : Int)), (8, iv c)] j (W_nil (N_then (G_seq (G_region (wR 3 [(0, .slice f b.length g), (1, .func (.func 82) #[] #[pB d 0]), (5, iv c), (7, iv (b.length : Int)), (8, iv c), (11, .func (.func 82) #[] #[pB d 0]), (12, .slice f b.length g), (13, iv c)] j ?_))))))))))))
   obtain ⟨h, v, hm⟩ := gx_bind hm
   refine wV (elemP f (c.toNat * 4)) j (eI (q.mem0 i) rfl v) (wV (.agg #[iv h.Tick, iv h.Guest, .string h.Kind, iv h.Value]) j (eE true 4 0 (c.toNat * 4) (q.mem0 i) v) ?_)
   obtain ⟨L, F, hm⟩ := gx_bind hm
   refine wC 82 #[.agg #[iv h.Tick, iv h.Guest, .string h.Kind, iv h.Value], pB d 0] ((c_i_eventsWhere_1__i_CountKinds_1 j h n k (i.ro D) d (i.ro E) F).mono ?_)
   rintro e_ y ⟨rfl, z⟩
   have o := i.call0 z
   refine ⟨_, rfl, ?_⟩
   refine W_nil (N_then ?_)
   rcases gx_bif hm with ⟨m, hm⟩ | ⟨m, hm⟩
   ·refine gT m (G_seq (G_region (wR 2 [(4, iv c)] y (W_nil (N_then (G_ret (N_block_ret (N_then_ret (N_then_ret ?_)))))))))
    obtain rfl := Option.some.inj hm
    obtain rfl := u _ rfl
    have hm := t; simp only [Sum.elim_inr] at hm
    refine N_block_ret (N_meet_ret (N_then_ret ?_))
    obtain rfl := Option.some.inj hm
    exact N_ret [iv c] (rC RVs_nil) (⟨rfl, o.pk []⟩)
   refine gF m (G_skip (N_block (N_then (G_region (wR 2 [(0, .slice f b.length g), (1, .func (.func 82) #[] #[pB d 0]), (7, iv (b.length : Int)), (8, iv (w64 (c + 1)))] y (W_nil ?_))))))
   obtain rfl := Option.some.inj hm
   exact N_loop fun a ha => ⟨_, rfl, o.pk [], ha.s⟩
  refine gF l (G_exit (N_then_exit (N_then_exit (N_block_eq ?_))))
  obtain rfl := Option.some.inj hm
  obtain rfl := u _ rfl
  exact N_meet fun a ha => ⟨_, rfl, i.pk [], ha.s⟩
 intro K I ⟨x, hout_, A, C⟩
 refine N_use C ?_
 subst hout_
 have hm := t; simp only [Sum.elim_inl] at hm
 refine N_then (G_seq (G_region (wR 1 [(4, iv (-1))] I (W_nil (N_then (G_ret ?_))))))
 obtain rfl := Option.some.inj hm
 exact N_ret [iv (-1)] (rC RVs_nil) (⟨rfl, A.pk []⟩)
theorem c_slices_DeleteFunc_81__i_eventsWhere_1__i_CountKinds_1 (w : World) (i : List Event) (c : Option Addr) (b : Nat) (j : Seg) (y : ownS encEvent i c b j) (D : ByteArray) (m : Nat) (T : w.heap[m]? = some (.cells ⟨[.string D]⟩ 9 (0, 0))) (h : Nat) (U : w.heap[h]? = some (.cells ⟨[.func (.func 72) #[] #[pB m 0]]⟩ 25 (0, 0))) (hA : ∀ q ∈ List.flatten [j], w.heap[q.1]? = some q.2) (hN : (idsOf [j]).Nodup) (aa : m ∉ (idsOf [j])) (ab : h ∉ (idsOf [j])) {r : (List Event) × (List Event)} (hm : M.slices_DeleteFunc_81__i_eventsWhere_1__i_CountKinds_1 i D = some r) :
  Calls Try.prog 81 #[.slice c i.length b, .func (.func 82) #[] #[pB h 0]] w fun e w' => ∃ (ad : Seg), ∃ (ac : Option Addr) (S : Nat), e = .returned (.slice ac r.1.length S) ∧ ownS encEvent r.2 c b ad ∧ r.2.length = i.length ∧ viewS 4 r.2 c b ac S r.1 ∧ Mem (idsOf [j]) w w' [ad] := by
 unfold M.slices_DeleteFunc_81__i_eventsWhere_1__i_CountKinds_1 at hm
 refine cE Try.func81 ?_
 have M0 := Mem.start' w [j] hA hN
 refine G_seq (G_region (wR 1 [(0, .slice c i.length b), (1, .func (.func 82) #[] #[pB h 0])] w (W_nil (N_then (G_seq (G_region (wR 2 [(0, .slice c i.length b), (1, .func (.func 82) #[] #[pB h 0]), (8, .slice c i.length b), (9, .func (.func 82) #[] #[pB h 0])] w ?_)))))))
 obtain ⟨o, ax, hm⟩ := gx_bind hm
 refine wC 59 #[.slice c i.length b, .func (.func 82) #[] #[pB h 0]] ((c_slices_IndexFunc_59__i_eventsWhere_1__i_CountKinds_1 w i c b (y.rd M0 0 (by kernel_rfl)) D m (M0.roX T aa) h (M0.roX U ab) ax).mono ?_)
 rintro e_ A ⟨rfl, af⟩
 have P := M0.call0 af
 refine ⟨_, rfl, ?_⟩
 refine wR 1 [(0, .slice c i.length b), (1, .func (.func 82) #[] #[pB h 0]), (5, iv o)] A (W_nil (N_then (G_seq (G_seq (G_region (wR 2 [(0, .slice c i.length b), (1, .func (.func 82) #[] #[pB h 0]), (5, iv o), (12, .bool (o == (-1)))] A (W_nil (N_then ?_))))))))
 rcases gx_bif hm with ⟨G, hm⟩ | ⟨G, hm⟩
 ·refine gT G (G_seq (G_region (wR 2 [(4, .slice c i.length b)] A (W_nil (N_then (G_ret (N_then_ret ?_)))))))
  obtain rfl := Option.some.inj hm
  exact N_ret [.slice c i.length b] (rC RVs_nil) (⟨j, c, b, rfl, y, rfl, (viewS_self y), P.pk [0]⟩)
 refine gF G (G_skip (N_then (G_seq (G_seq (G_region (wR 3 [(0, .slice c i.length b), (1, .func (.func 82) #[] #[pB h 0]), (5, iv o), (6, iv (w64 (o + 1)))] A (W_nil (N_then ?_))))))))
 obtain ⟨g, az, aq⟩ := gx_bind hm
 refine G_meet (fun a w' => ∃ (K : Seg), ownS encEvent g.2 c b K ∧ g.2.length = i.length ∧ Mem (idsOf [j]) w w' [K] ∧ Sat Try.f81.ntmps [(0, .slice c g.2.length b), (5, iv g.1)] a) ?_ ?_
 ·refine G_block (G_while (σ := Int × Int × List Event) (ρ := Int × List Event) (fun d a w' => ∃ (t : Seg), ownS encEvent d.2.2 c b t ∧ d.2.2.length = i.length ∧ Mem (idsOf [j]) w w' [t] ∧ Sat Try.f81.ntmps [(0, .slice c d.2.2.length b), (1, .func (.func 82) #[] #[pB h 0]), (5, iv d.1), (6, iv d.2.1)] a) az (fun a ha => ⟨j, y, rfl, P.pk [0], ha.s⟩) ?_)
  clear hm
  intro d bd hm aw a9 B ⟨t, k, J, u, ak⟩
  refine G_use ak (G_seq (G_seq (G_region (wR 4 [(0, .slice c d.2.2.length b), (1, .func (.func 82) #[] #[pB h 0]), (5, iv d.1), (6, iv d.2.1), (19, .bool (decide (d.2.1 < (d.2.2.length : Int))))] B (W_nil (N_then ?_))))))
  rcases gx_bif hm with ⟨H, hm⟩ | ⟨H, hm⟩
  ·refine gT H (G_skip (N_then (G_seq (G_block (G_seq (G_region (wR 2 [(0, .slice c d.2.2.length b), (1, .func (.func 82) #[] #[pB h 0]), (5, iv d.1), (6, iv d.2.1), (22, .slice c d.2.2.length b), (23, iv d.2.1)] B ?_)))))))
   obtain ⟨f, X, hm⟩ := gx_bind hm
   refine wV (elemP c (d.2.1.toNat * 4)) B (eI (k.rd u 0 (by kernel_rfl)) rfl X) (wV (.agg #[iv f.Tick, iv f.Guest, .string f.Kind, iv f.Value]) B (eE true 4 0 (d.2.1.toNat * 4) (k.rd u 0 (by kernel_rfl)) X) (wN (.cells ⟨[iv 0, iv 0, .string ByteArray.empty, iv 0]⟩ 26 (0, 0)) u ?_))
   intro F bc ah
   refine wS true 4 0 (.agg #[iv f.Tick, iv f.Guest, .string f.Kind, iv f.Value]) 1 [iv f.Tick, iv f.Guest, .string f.Kind, iv f.Value] ah rfl ?_
   intro L v
   refine W_nil (N_then (G_seq (G_region (wR 1 [(0, .slice c d.2.2.length b), (1, .func (.func 82) #[] #[pB h 0]), (5, iv d.1), (6, iv d.2.1), (7, pB F 0), (26, .func (.func 82) #[] #[pB h 0])] L (wV (.agg #[iv f.Tick, iv f.Guest, .string f.Kind, iv f.Value]) L (eL true 4 0 (v.blk 1 rfl)) ?_)))))
   obtain ⟨a0, ay, hm⟩ := gx_bind hm
   refine wC 82 #[.agg #[iv f.Tick, iv f.Guest, .string f.Kind, iv f.Value], pB h 0] ((c_i_eventsWhere_1__i_CountKinds_1 L f D m (v.roX T aa) h (v.roX U ab) ay).mono ?_)
   rintro e_ C ⟨rfl, ag⟩
   have x := v.call0 ag
   refine ⟨_, rfl, ?_⟩
   refine wR 1 [(0, .slice c d.2.2.length b), (1, .func (.func 82) #[] #[pB h 0]), (5, iv d.1), (6, iv d.2.1), (7, pB F 0), (29, .bool (!a0))] C (W_nil (N_then ?_))
   obtain ⟨l, ar, ap⟩ := gx_bind hm
   refine G_meet (fun a w' => ∃ (z : Seg), ownS encEvent l.2 c b z ∧ l.2.length = i.length ∧ Mem (idsOf [j]) w w' [z] ∧ Sat Try.f81.ntmps [(0, .slice c l.2.length b), (1, .func (.func 82) #[] #[pB h 0]), (5, iv l.1), (6, iv d.2.1)] a) ?_ ?_
   ·have hm := ar
    rcases gx_bif hm with ⟨I, hm⟩ | ⟨I, hm⟩
    ·refine gT I (G_seq (G_region (wR 2 [(0, .slice c d.2.2.length b), (1, .func (.func 82) #[] #[pB h 0]), (5, iv d.1), (6, iv d.2.1), (7, pB F 0), (30, .slice c d.2.2.length b), (31, iv d.1)] C (wV (.agg #[iv f.Tick, iv f.Guest, .string f.Kind, iv f.Value]) C (eL true 4 0 (x.blk 1 rfl)) ?_))))
     obtain ⟨a7, Y, hm⟩ := gx_bind hm
     refine wV (elemP c (d.1.toNat * 4)) C (eI (k.rd x 0 (by kernel_rfl)) rfl Y) (wE true 4 d.1.toNat 0 (d.1.toNat * 4) a7 f (.agg #[iv f.Tick, iv f.Guest, .string f.Kind, iv f.Value]) 0 x k (gxIdx_spec Y).2 ?_)
     intro a5 a3 av ai
     refine wX 0 (.slice c d.2.2.length b) (.slice c (d.2.2.set d.1.toNat f).length b) (by rw [@List.length_set _ d.2.2 d.1.toNat f]) (wX 30 (.slice c d.2.2.length b) (.slice c (d.2.2.set d.1.toNat f).length b) (by rw [@List.length_set _ d.2.2 d.1.toNat f]) (W_nil (N_then (G_region (wR 3 [(0, .slice c (d.2.2.set d.1.toNat f).length b), (1, .func (.func 82) #[] #[pB h 0]), (5, iv (w64 (d.1 + 1))), (6, iv d.2.1)] a5 (W_nil ?_))))))
     obtain rfl := Option.some.inj hm
     exact N_meet fun a ha => ⟨a3, av, (List.length_set.trans J), ai.pk [0], ha.s⟩
    refine gF I (G_skip ?_)
    obtain rfl := Option.some.inj hm
    exact N_meet fun a ha => ⟨t, k, J, x.pk [0], ha.s⟩
   intro ba a6 ⟨z, au, ao, aj, al⟩
   refine N_use al ?_
   have hm := ap
   refine N_block (N_then (G_region (wR 3 [(0, .slice c l.2.length b), (1, .func (.func 82) #[] #[pB h 0]), (5, iv l.1), (6, iv (w64 (d.2.1 + 1)))] a6 (W_nil ?_))))
   obtain rfl := Option.some.inj hm
   exact N_loop fun a ha => ⟨_, rfl, z, au, ao, aj.pk [0], ha.s⟩
  refine gF H (G_exit (N_then_exit (N_then_exit (N_block_eq ?_))))
  obtain rfl := Option.some.inj hm
  obtain rfl := aw _ rfl
  exact N_meet fun a ha => ⟨t, k, J, u.pk [0], ha.s⟩
 intro bb ae ⟨K, V, an, Q, am⟩
 refine N_use am ?_
 have hm := aq
 refine N_then (G_seq (G_region (wR 2 [(0, .slice c g.2.length b), (5, iv g.1), (36, .slice c g.2.length b), (37, iv g.1)] ae ?_)))
 obtain ⟨a8, n, hm⟩ := gx_bind hm
 refine wV (.slice (subP c g.1.toNat b 4) a8.length (b - g.1.toNat)) ae (E_slice (E := encEvent) _ _ _ _ g.2.length g.1 (g.2.length : Int) rfl (by kernel_rfl) (Or.inr ⟨_, rfl, by kernel_rfl⟩) (Or.inl ⟨rfl, rfl⟩) (by kernel_rfl) (V.rd Q 0 (by kernel_rfl)) rfl n) (W_clear (E := encEvent) _ _ g.1 (g.2.length : Int) 40 [iv 0, iv 0, .string ByteArray.empty, iv 0] ((⟨0, 0, ByteArray.empty, 0⟩ : Event) : Event) 0 Q V (by kernel_rfl) (by kernel_rfl) (by kernel_rfl) rfl (by kernel_rfl) n (by kernel_rfl) (by kernel_rfl) ?_)
 intro N a4 W R
 refine wX 0 (.slice c g.2.length b) (.slice c (gxClear g.2 g.1 (g.2.length : Int) ((⟨0, 0, ByteArray.empty, 0⟩ : Event) : Event)).length b) (by rw [gxClear_len ((⟨0, 0, ByteArray.empty, 0⟩ : Event) : Event) n]) (wX 36 (.slice c g.2.length b) (.slice c (gxClear g.2 g.1 (g.2.length : Int) ((⟨0, 0, ByteArray.empty, 0⟩ : Event) : Event)).length b) (by rw [gxClear_len ((⟨0, 0, ByteArray.empty, 0⟩ : Event) : Event) n]) (W_nil (N_then (G_seq (G_region (wR 2 [(39, .slice c (gxClear g.2 g.1 (g.2.length : Int) ((⟨0, 0, ByteArray.empty, 0⟩ : Event) : Event)).length b), (40, iv g.1)] N ?_))))))
 obtain ⟨O, Z, hm⟩ := gx_bind hm
 refine wV (.slice (subP c (0 : Int).toNat b 4) O.length (b - (0 : Int).toNat)) N (E_slice (E := encEvent) _ _ _ _ (gxClear g.2 g.1 (g.2.length : Int) ((⟨0, 0, ByteArray.empty, 0⟩ : Event) : Event)).length 0 g.1 rfl (by kernel_rfl) (Or.inl ⟨rfl, rfl⟩) (Or.inr ⟨_, rfl, by kernel_rfl⟩) (by kernel_rfl) (W.rd R 0 (by kernel_rfl)) rfl Z) (wR 1 [(4, .slice (subP c (0 : Int).toNat b 4) O.length (b - (0 : Int).toNat))] N (W_nil (N_then (G_ret ?_))))
 obtain rfl := Option.some.inj hm
 exact N_ret [.slice (subP c (0 : Int).toNat b 4) O.length (b - (0 : Int).toNat)] (rC RVs_nil) (⟨a4, (subP c (0 : Int).toNat b 4), (b - (0 : Int).toNat), rfl, W, ((gxClear_len ((⟨0, 0, ByteArray.empty, 0⟩ : Event) : Event) n).trans an), ⟨0, g.1, rfl, rfl, Z⟩, R.pk [0]⟩)
theorem c_i_eventsWhere__i_CountKinds_1 (w : World) (i : List Event) (l : Option Addr) (k : Nat) (F : rdS encEvent w i l k) (n : ByteArray) (f : Nat) (u : w.heap[f]? = some (.cells ⟨[.string n]⟩ 9 (0, 0))) {r : (List Event)} (hm : M.i_eventsWhere__i_CountKinds_1 i n = some r) :
  Calls Try.prog 62 #[.slice l i.length k, .func (.func 72) #[] #[pB f 0]] w fun e w' => ∃ (x : Option Addr) (t : Nat) (y : Seg), e = .returned (.slice x r.length t) ∧ ownS encEvent r x t y ∧ Mem [] w w' [y] := by
 unfold M.i_eventsWhere__i_CountKinds_1 at hm
 refine cE Try.func62 ?_
 have M0 := Mem.refl [] w
 refine G_seq (G_region (wN (.cells ⟨[.func (.func 72) #[] #[pB f 0]]⟩ 25 (0, 0)) M0 ?_))
 intro g R B
 refine wR 1 [(0, .slice l i.length k), (3, pB g 0)] R (W_nil (N_then (G_seq (G_region (wL (E := encEvent) ([] : List Event) 0 [] 26 B ?_)))))
 intro O D X S H q
 refine wR 1 [(3, pB g 0), (5, .slice O ([] : List Event).length D), (6, .slice l i.length k)] S ?_
 obtain ⟨j, G, hm⟩ := gx_bind hm
 refine wA 40 [iv 0, iv 0, .string ByteArray.empty, iv 0] 1 q H (F.mem0 q) G ?_
 intro c a P z I d
 refine wR 1 [(7, .slice c j.length a), (8, .func (.func 82) #[] #[pB g 0])] z ?_
 obtain ⟨m, K, hm⟩ := gx_bind hm
 refine wC 81 #[.slice c j.length a, .func (.func 82) #[] #[pB g 0]] ((c_slices_DeleteFunc_81__i_eventsWhere_1__i_CountKinds_1 z j c a P I n f (d.ro u) g (d.blk 0 (b := g) (o := .cells ⟨[.func (.func 72) #[] #[pB f 0]]⟩ 25 (0, 0)) (by kernel_rfl)) (d.hasPick [1]) (d.nodupPick [1] (by kernel_rfl)) (blkOld d u (by simp) [1]) (blkApart d 0 (o := .cells ⟨[.func (.func 72) #[] #[pB f 0]]⟩ 25 (0, 0)) (by kernel_rfl) [1] (by kernel_rfl)) K).mono ?_)
 rintro e_ T ⟨Q, W, U, rfl, J, v, N, A⟩
 obtain ⟨h, V, rfl, rfl, L⟩ := N
 have C := d.callF' [1] [0] (by kernel_rfl) A
 refine ⟨_, rfl, ?_⟩
 refine wX 7 (.slice c j.length a) (.slice c m.2.length a) (by first | rw [v] | rw [v]) (wR 1 [(4, .slice (subP c h.toNat a 4) m.1.length (a - h.toNat))] T (W_nil (N_then (G_ret ?_))))
 obtain rfl := Option.some.inj hm
 exact N_ret [.slice (subP c h.toNat a 4) m.1.length (a - h.toNat)] (rC RVs_nil) (⟨(subP c h.toNat a 4), (a - h.toNat), Q, rfl, (J.partM L), C.pk [1]⟩)
theorem c_i_CountKinds (w : World) (d : List Event) (h : Option Addr) (i : Nat) (H : rdS encEvent w d h i) {r : (List ByteArray) × (List Int) × Bool} (hm : M.i_CountKinds d = some r) :
  Calls Try.prog 37 #[.slice h d.length i] w fun e w' => ∃ (ax : Option Addr) (ap : Nat) (az : Seg), ∃ (ay : Option Addr) (aq : Nat) (a0 : Seg), e = .returned (.tuple #[.slice ax r.1.length ap, .slice ay r.2.1.length aq, .bool r.2.2]) ∧ ownS Gx.encS r.1 ax ap az ∧ ownS Gx.encI r.2.1 ay aq a0 ∧ Mem [] w w' [az, a0] := by
 unfold M.i_CountKinds at hm
 refine cE Try.func37 ?_
 have M0 := Mem.refl [] w
 refine G_seq (G_region (wR 3 [(0, .slice h d.length i)] w (W_nil (N_then (G_seq (G_seq (G_region (wR 1 [(0, .slice h d.length i), (11, .slice h d.length i)] w ?_))))))))
 obtain ⟨ch, ca, hm⟩ := gx_bind hm
 refine wC 20 #[.slice h d.length i] ((c_i_IsRecord w d h i (H.mem0 M0) ca).mono ?_)
 rintro e_ a3 ⟨rfl, bc⟩
 have aj := M0.call0 bc
 refine ⟨_, rfl, ?_⟩
 refine wR 1 [(0, .slice h d.length i), (13, .bool (!ch))] a3 (W_nil (N_then ?_))
 rcases gx_bif hm with ⟨W, hm⟩ | ⟨W, hm⟩
 ·refine gT W (G_seq (G_region (wR 3 [(2, .slice none 0 0), (3, .slice none 0 0), (4, .bool false)] a3 (W_nil (N_then (G_ret (N_then_ret ?_)))))))
  obtain rfl := Option.some.inj hm
  exact N_ret [.slice none 0 0, .slice none 0 0, .bool false] (rC (rC (rC RVs_nil))) (⟨none, 0, [], none, 0, [], rfl, ownS_nil, ownS_nil, aj.pk [100000, 100001]⟩)
 refine gF W (G_skip (N_then (G_seq (G_region (wL (E := Gx.encS) ([] : List ByteArray) 0 [] 9 aj ?_)))))
 intro ab T ci c5 bz bg
 refine wL (E := Gx.encI) ([] : List Int) 0 [] 3 bg ?_
 intro q n af a4 b0 bh
 refine wR 2 [(0, .slice h d.length i), (5, .slice ab ([] : List ByteArray).length T), (6, .slice q ([] : List Int).length n)] a4 (W_nil (N_then (G_seq (G_seq (G_region (wR 3 [(0, .slice h d.length i), (5, .slice ab ([] : List ByteArray).length T), (6, .slice q ([] : List Int).length n), (16, .slice h d.length i), (17, iv (d.length : Int)), (18, iv 0)] a4 (W_nil (N_then ?_))))))))
 obtain ⟨v, ce, bw⟩ := gx_bind hm
 refine G_meet (fun a w' => ∃ (g : Option Addr), ∃ (c : Nat), ∃ (N : Seg), ownS Gx.encS v g c N ∧ Mem [] w w' [af, N] ∧ Sat Try.f37.ntmps [(0, .slice h d.length i), (5, .slice g v.length c), (6, .slice q ([] : List Int).length n)] a) ?_ ?_
 ·refine G_block (G_while (σ := List ByteArray × Int) (ρ := List ByteArray) (fun m a w' => ∃ (z : Option Addr), ∃ (y : Nat), ∃ (L : Seg), ownS Gx.encS m.1 z y L ∧ Mem [] w w' [af, L] ∧ Sat Try.f37.ntmps [(0, .slice h d.length i), (5, .slice z m.1.length y), (6, .slice q ([] : List Int).length n), (16, .slice h d.length i), (17, iv (d.length : Int)), (18, iv m.2)] a) ce (fun a ha => ⟨ab, T, ci, bz, bh.pk [1, 0], ha.s⟩) ?_)
  clear hm
  intro m da hm b8 co ah ⟨z, y, L, ar, D, bq⟩
  refine G_use bq (G_seq (G_region (wR 1 [(0, .slice h d.length i), (5, .slice z m.1.length y), (6, .slice q ([] : List Int).length n), (16, .slice h d.length i), (17, iv (d.length : Int)), (18, iv m.2), (19, .bool (decide (m.2 < (d.length : Int))))] ah (W_nil (N_then (G_seq ?_))))))
  rcases gx_bif hm with ⟨X, hm⟩ | ⟨X, hm⟩
  ·refine gT X (G_skip (N_then (G_seq (G_block (G_seq (G_region ?_))))))
   obtain ⟨l, av, hm⟩ := gx_bind hm
   refine wV (elemP h (m.2.toNat * 4)) ah (eI (H.mem0 D) rfl av) (wV (.agg #[iv l.Tick, iv l.Guest, .string l.Kind, iv l.Value]) ah (eE true 4 0 (m.2.toNat * 4) (H.mem0 D) av) (wN (.cells ⟨[iv 0, iv 0, .string ByteArray.empty, iv 0]⟩ 26 (0, 0)) D ?_))
   intro bp c6 bi
   refine wS true 4 0 (.agg #[iv l.Tick, iv l.Guest, .string l.Kind, iv l.Value]) 2 [iv l.Tick, iv l.Guest, .string l.Kind, iv l.Value] bi rfl ?_
   intro a5 ak
   refine W_nil (N_then (G_region (wR 2 [(0, .slice h d.length i), (5, .slice z m.1.length y), (6, .slice q ([] : List Int).length n), (16, .slice h d.length i), (17, iv (d.length : Int)), (18, iv m.2), (22, .slice z m.1.length y), (23, pB bp 2)] a5 (wV (.string l.Kind) a5 (eL false 1 2 (ak.blk 2 rfl)) (wL (E := Gx.encS) [l.Kind] 1 [.string l.Kind] 9 ak ?_)))))
   intro cy cs c2 c7 b2 al
   obtain ⟨an, bu, hm⟩ := gx_bind hm
   refine wA 16 [.string ByteArray.empty] 1 al ar (b2.rd al 3 (by kernel_rfl)) bu ?_
   intro ac U cj a6 b3 bj
   refine wR 1 [(0, .slice h d.length i), (5, .slice ac an.length U), (6, .slice q ([] : List Int).length n), (16, .slice h d.length i), (17, iv (d.length : Int)), (18, iv m.2)] a6 (W_nil (N_block (N_then (G_region (wR 2 [(0, .slice h d.length i), (5, .slice ac an.length U), (6, .slice q ([] : List Int).length n), (16, .slice h d.length i), (17, iv (d.length : Int)), (18, iv (w64 (m.2 + 1)))] a6 (W_nil ?_))))))
   obtain rfl := Option.some.inj hm
   exact N_loop fun a ha => ⟨_, rfl, ac, U, cj, b3, bj.pk [0, 1], ha.s⟩
  refine gF X (G_exit (N_then_exit (N_then_exit (N_block_eq ?_))))
  obtain rfl := Option.some.inj hm
  obtain rfl := b8 _ rfl
  exact N_meet fun a ha => ⟨z, y, L, ar, D.pk [0, 1], ha.s⟩
 intro cp a7 ⟨g, c, N, b1, Q, br⟩
 refine N_use br ?_
 have hm := bw
 refine N_then (G_seq (G_region (wR 1 [(0, .slice h d.length i), (5, .slice g v.length c), (6, .slice q ([] : List Int).length n), (28, .slice g v.length c)] a7 ?_)))
 obtain ⟨x, cb, hm⟩ := gx_bind hm
 refine wC 70 #[.slice g v.length c] ((c_slices_Sort_70 a7 v g c N b1 (Q.hasPick [1]) (Q.nodupPick [1] (by kernel_rfl)) cb).mono ?_)
 rintro e_ a8 ⟨ck, rfl, b4, I, bd⟩
 have R := Q.callF' [1] [0] (by kernel_rfl) bd
 refine ⟨_, rfl, ?_⟩
 refine wX 5 (.slice g v.length c) (.slice g x.length c) (by first | rw [I] | rw [I]) (wX 28 (.slice g v.length c) (.slice g x.length c) (by first | rw [I] | rw [I]) (W_nil (N_then (G_seq (G_region (wR 1 [(0, .slice h d.length i), (5, .slice g x.length c), (6, .slice q ([] : List Int).length n), (30, .slice g x.length c)] a8 ?_))))))
 obtain ⟨j, cc, hm⟩ := gx_bind hm
 refine wC 71 #[.slice g x.length c] ((c_slices_Compact_71 a8 x g c ck b4 (R.hasPick [1]) (R.nodupPick [1] (by kernel_rfl)) cc).mono ?_)
 rintro e_ a9 ⟨ag, cz, ct, rfl, Z, J, cf, be⟩
 obtain ⟨f, cw, rfl, rfl, aa⟩ := cf
 have bk := R.callF' [1] [0] (by kernel_rfl) be
 refine ⟨_, rfl, ?_⟩
 refine wX 5 (.slice g x.length c) (.slice g j.2.length c) (by first | rw [J] | rw [J]) (wX 30 (.slice g x.length c) (.slice g j.2.length c) (by first | rw [J] | rw [J]) (wR 1 [(0, .slice h d.length i), (5, .slice (subP g f.toNat c 1) j.1.length (c - f.toNat)), (6, .slice q ([] : List Int).length n)] a9 (W_nil (N_then (G_seq (G_seq (G_region (wR 3 [(0, .slice h d.length i), (5, .slice (subP g f.toNat c 1) j.1.length (c - f.toNat)), (6, .slice q ([] : List Int).length n), (32, .slice (subP g f.toNat c 1) j.1.length (c - f.toNat)), (33, iv (j.1.length : Int)), (34, iv 0)] a9 (W_nil (N_then ?_))))))))))
 obtain ⟨K, cg, bx⟩ := gx_bind hm
 refine G_meet (fun a w' => ∃ (B : Option Addr), ∃ (A : Nat), ∃ (P : Seg), ownS Gx.encI K B A P ∧ Mem [] w w' [ag, P] ∧ Sat Try.f37.ntmps [(5, .slice (subP g f.toNat c 1) j.1.length (c - f.toNat)), (6, .slice B K.length A)] a) ?_ ?_
 ·refine G_block (G_while (σ := List Int × Int) (ρ := List Int) (fun k a w' => ∃ (u : Option Addr), ∃ (t : Nat), ∃ (O : Seg), ownS Gx.encI k.1 u t O ∧ Mem [] w w' [ag, O] ∧ Sat Try.f37.ntmps [(0, .slice h d.length i), (5, .slice (subP g f.toNat c 1) j.1.length (c - f.toNat)), (6, .slice u k.1.length t), (32, .slice (subP g f.toNat c 1) j.1.length (c - f.toNat)), (33, iv (j.1.length : Int)), (34, iv k.2)] a) cg (fun a ha => ⟨q, n, af, b0, bk.pk [1, 0], ha.s⟩) ?_)
  clear hm
  intro k db hm b9 cq ai ⟨u, t, O, au, F, bs⟩
  refine G_use bs (G_seq (G_region (wR 1 [(0, .slice h d.length i), (5, .slice (subP g f.toNat c 1) j.1.length (c - f.toNat)), (6, .slice u k.1.length t), (32, .slice (subP g f.toNat c 1) j.1.length (c - f.toNat)), (33, iv (j.1.length : Int)), (34, iv k.2), (35, .bool (decide (k.2 < (j.1.length : Int))))] ai (W_nil (N_then (G_seq ?_))))))
  rcases gx_bif hm with ⟨Y, hm⟩ | ⟨Y, hm⟩
  ·refine gT Y (G_skip (N_then (G_seq (G_block (G_seq (G_region ?_))))))
   obtain ⟨C, aw, hm⟩ := gx_bind hm
   refine wV (elemP (subP g f.toNat c 1) (k.2.toNat * 1)) ai (eI ((Z.rd F 0 (by kernel_rfl)).sliceM aa) rfl aw) (wV (.string C) ai (eE false 1 0 (k.2.toNat * 1) ((Z.rd F 0 (by kernel_rfl)).sliceM aa) aw) (wN (.cells ⟨[.string ByteArray.empty]⟩ 9 (0, 0)) F ?_))
   intro G c8 bl
   refine wS false 1 0 (.string C) 2 [.string C] bl rfl ?_
   intro ba S
   refine W_nil (N_then (G_region (wR 3 [(0, .slice h d.length i), (5, .slice (subP g f.toNat c 1) j.1.length (c - f.toNat)), (6, .slice u k.1.length t), (32, .slice (subP g f.toNat c 1) j.1.length (c - f.toNat)), (33, iv (j.1.length : Int)), (34, iv k.2), (38, .slice u k.1.length t), (39, .slice h d.length i), (40, .func (.func 72) #[] #[pB G 0])] ba ?_)))
   obtain ⟨ae, cd, hm⟩ := gx_bind hm
   refine wC 62 #[.slice h d.length i, .func (.func 72) #[] #[pB G 0]] ((c_i_eventsWhere__i_CountKinds_1 ba d h i (H.mem0 S) C G (S.blk 2 (b := G) (o := .cells ⟨[.string C]⟩ 9 (0, 0)) (by kernel_rfl)) cd).mono ?_)
   rintro e_ cm ⟨c0, cu, c3, rfl, cx, bf⟩
   have bm := S.call bf
   refine ⟨_, rfl, ?_⟩
   refine wR 1 [(0, .slice h d.length i), (5, .slice (subP g f.toNat c 1) j.1.length (c - f.toNat)), (6, .slice u k.1.length t), (32, .slice (subP g f.toNat c 1) j.1.length (c - f.toNat)), (33, iv (j.1.length : Int)), (34, iv k.2), (38, .slice u k.1.length t), (42, iv (ae.length : Int))] cm (wL (E := Gx.encI) [(ae.length : Int)] 1 [iv (ae.length : Int)] 3 bm ?_)
   intro c1 cv c4 c9 b6 am
   obtain ⟨ao, bv, hm⟩ := gx_bind hm
   refine wA 8 [iv 0] 1 am au (b6.rd am 4 (by kernel_rfl)) bv ?_
   intro ad V cl bb b7 bn
   refine wR 1 [(0, .slice h d.length i), (5, .slice (subP g f.toNat c 1) j.1.length (c - f.toNat)), (6, .slice ad ao.length V), (32, .slice (subP g f.toNat c 1) j.1.length (c - f.toNat)), (33, iv (j.1.length : Int)), (34, iv k.2)] bb (W_nil (N_block (N_then (G_region (wR 2 [(0, .slice h d.length i), (5, .slice (subP g f.toNat c 1) j.1.length (c - f.toNat)), (6, .slice ad ao.length V), (32, .slice (subP g f.toNat c 1) j.1.length (c - f.toNat)), (33, iv (j.1.length : Int)), (34, iv (w64 (k.2 + 1)))] bb (W_nil ?_))))))
   obtain rfl := Option.some.inj hm
   exact N_loop fun a ha => ⟨_, rfl, ad, V, cl, b7, bn.pk [0, 1], ha.s⟩
  refine gF Y (G_exit (N_then_exit (N_then_exit (N_block_eq ?_))))
  obtain rfl := Option.some.inj hm
  obtain rfl := b9 _ rfl
  exact N_meet fun a ha => ⟨u, t, O, au, F.pk [0, 1], ha.s⟩
 intro cr cn ⟨B, A, P, b5, bo, bt⟩
 refine N_use bt ?_
 have hm := bx
 refine N_then (G_seq (G_region (wR 5 [(2, .slice (subP g f.toNat c 1) j.1.length (c - f.toNat)), (3, .slice B K.length A), (4, .bool true)] cn (W_nil (N_then (G_ret ?_))))))
 obtain rfl := Option.some.inj hm
 exact N_ret [.slice (subP g f.toNat c 1) j.1.length (c - f.toNat), .slice B K.length A, .bool true] (rC (rC (rC RVs_nil))) (⟨(subP g f.toNat c 1), (c - f.toNat), ag, B, A, P, rfl, (Z.partM aa), b5, bo.pk [0, 1]⟩)
theorem c_l_eqStringS (w : World) (c : List ByteArray) (f : Option Addr) (h : Nat) (t : rdS Gx.encS w c f h) (d : List ByteArray) (g : Option Addr) (i : Nat) (u : rdS Gx.encS w d g i) {r : Bool} (hm : M.l_eqStringS c d = some r) :
  Calls Try.prog 38 #[.slice f c.length h, .slice g d.length i] w fun e w' => e = .returned (.bool r) ∧ Mem [] w w' [] := by
 unfold M.l_eqStringS at hm
 refine cE Try.func38 ?_
 have M0 := Mem.refl [] w
 refine G_seq (G_region (wR 1 [(0, .slice f c.length h), (1, .slice g d.length i)] w (W_nil (N_then (G_seq (G_seq (G_region (wR 5 [(0, .slice f c.length h), (1, .slice g d.length i), (10, .bool ((c.length : Int) != (d.length : Int)))] w (W_nil (N_then ?_))))))))))
 rcases gx_bif hm with ⟨k, hm⟩ | ⟨k, hm⟩
 ·refine gT k (G_seq (G_region (wR 1 [(4, .bool false)] w (W_nil (N_then (G_ret (N_then_ret ?_)))))))
  obtain rfl := Option.some.inj hm
  exact N_ret [.bool false] (rC RVs_nil) (⟨rfl, M0.pk []⟩)
 refine gF k (G_skip (N_then (G_seq (G_seq (G_region (wR 1 [(0, .slice f c.length h), (1, .slice g d.length i), (5, iv 0)] w (W_nil (N_then ?_))))))))
 obtain ⟨G, F, v⟩ := gx_bind hm
 refine G_meet (fun a w' => ∃ (A : Unit), G = .inl A ∧ Mem [] w w' [] ∧ Sat Try.f38.ntmps [] a) ?_ ?_
 ·refine G_block (G_while (σ := Int) (ρ := (Unit) ⊕ (Bool)) (fun b a w' => Mem [] w w' [] ∧ Sat Try.f38.ntmps [(0, .slice f c.length h), (1, .slice g d.length i), (5, iv b)] a) F (fun a ha => ⟨M0.pk [], ha.s⟩) ?_)
  clear hm
  intro b L hm x J H ⟨o, D⟩
  refine G_use D (G_seq (G_seq (G_region (wR 4 [(0, .slice f c.length h), (1, .slice g d.length i), (5, iv b), (14, .bool (decide (b < (c.length : Int))))] H (W_nil (N_then ?_))))))
  rcases gx_bif hm with ⟨l, hm⟩ | ⟨l, hm⟩
  ·refine gT l (G_skip (N_then (G_seq (G_block (G_seq (G_quiet (by kernel_rfl) (by kernel_rfl) o (zR [.slice f c.length h, iv b] [(0, .slice f c.length h), (1, .slice g d.length i), (5, iv b), (17, .slice f c.length h), (18, iv b)] ?_)))))))
   obtain ⟨j, y, hm⟩ := gx_bind hm
   refine zV (elemP f (b.toNat * 1)) (fun w_ M_ => (eI (t.mem0 M_) rfl y)) (zV (.string j) (fun w_ M_ => (eE false 1 0 (b.toNat * 1) (t.mem0 M_) y)) (zR [.slice g d.length i, iv b] [(0, .slice f c.length h), (1, .slice g d.length i), (5, iv b), (20, .string j), (21, .slice g d.length i), (22, iv b)] ?_))
   obtain ⟨n, z, hm⟩ := gx_bind hm
   refine zV (elemP g (b.toNat * 1)) (fun w_ M_ => (eI (u.mem0 M_) rfl z)) (zV (.string n) (fun w_ M_ => (eE false 1 0 (b.toNat * 1) (u.mem0 M_) z)) (zR [.bool (!(j.toList == n.toList))] [(0, .slice f c.length h), (1, .slice g d.length i), (5, iv b), (25, .bool (!(j.toList == n.toList)))] (Z_end fun B q => (N_then ?_))))
   rcases gx_bif hm with ⟨m, hm⟩ | ⟨m, hm⟩
   ·refine gT m (G_seq (G_region (wR 1 [(4, .bool false)] B (W_nil (N_then (G_ret (N_block_ret (N_then_ret (N_then_ret ?_)))))))))
    obtain rfl := Option.some.inj hm
    obtain rfl := x _ rfl
    have hm := v; simp only [Sum.elim_inr] at hm
    refine N_block_ret (N_meet_ret (N_then_ret ?_))
    obtain rfl := Option.some.inj hm
    exact N_ret [.bool false] (rC RVs_nil) (⟨rfl, q.pk []⟩)
   refine gF m (G_skip (N_block (N_then (G_region (wR 3 [(0, .slice f c.length h), (1, .slice g d.length i), (5, iv (w64 (b + 1)))] B (W_nil ?_))))))
   obtain rfl := Option.some.inj hm
   exact N_loop fun a ha => ⟨_, rfl, q.pk [], ha.s⟩
  refine gF l (G_exit (N_then_exit (N_then_exit (N_block_eq ?_))))
  obtain rfl := Option.some.inj hm
  obtain rfl := x _ rfl
  exact N_meet fun a ha => ⟨_, rfl, o.pk [], ha.s⟩
 intro K I ⟨A, hout_, C, E⟩
 refine N_use E ?_
 subst hout_
 have hm := v; simp only [Sum.elim_inl] at hm
 refine N_then (G_seq (G_region (wR 1 [(4, .bool true)] I (W_nil (N_then (G_ret ?_))))))
 obtain rfl := Option.some.inj hm
 exact N_ret [.bool true] (rC RVs_nil) (⟨rfl, C.pk []⟩)
theorem c_l_eqIntS (w : World) (c : List Int) (f : Option Addr) (h : Nat) (t : rdS Gx.encI w c f h) (d : List Int) (g : Option Addr) (i : Nat) (u : rdS Gx.encI w d g i) {r : Bool} (hm : M.l_eqIntS c d = some r) :
  Calls Try.prog 39 #[.slice f c.length h, .slice g d.length i] w fun e w' => e = .returned (.bool r) ∧ Mem [] w w' [] := by
 unfold M.l_eqIntS at hm
 refine cE Try.func39 ?_
 have M0 := Mem.refl [] w
 refine G_seq (G_region (wR 1 [(0, .slice f c.length h), (1, .slice g d.length i)] w (W_nil (N_then (G_seq (G_seq (G_region (wR 5 [(0, .slice f c.length h), (1, .slice g d.length i), (10, .bool ((c.length : Int) != (d.length : Int)))] w (W_nil (N_then ?_))))))))))
 rcases gx_bif hm with ⟨k, hm⟩ | ⟨k, hm⟩
 ·refine gT k (G_seq (G_region (wR 1 [(4, .bool false)] w (W_nil (N_then (G_ret (N_then_ret ?_)))))))
  obtain rfl := Option.some.inj hm
  exact N_ret [.bool false] (rC RVs_nil) (⟨rfl, M0.pk []⟩)
 refine gF k (G_skip (N_then (G_seq (G_seq (G_region (wR 1 [(0, .slice f c.length h), (1, .slice g d.length i), (5, iv 0)] w (W_nil (N_then ?_))))))))
 obtain ⟨G, F, v⟩ := gx_bind hm
 refine G_meet (fun a w' => ∃ (A : Unit), G = .inl A ∧ Mem [] w w' [] ∧ Sat Try.f39.ntmps [] a) ?_ ?_
 ·refine G_block (G_while (σ := Int) (ρ := (Unit) ⊕ (Bool)) (fun b a w' => Mem [] w w' [] ∧ Sat Try.f39.ntmps [(0, .slice f c.length h), (1, .slice g d.length i), (5, iv b)] a) F (fun a ha => ⟨M0.pk [], ha.s⟩) ?_)
  clear hm
  intro b L hm x J H ⟨o, D⟩
  refine G_use D (G_seq (G_seq (G_region (wR 4 [(0, .slice f c.length h), (1, .slice g d.length i), (5, iv b), (14, .bool (decide (b < (c.length : Int))))] H (W_nil (N_then ?_))))))
  rcases gx_bif hm with ⟨l, hm⟩ | ⟨l, hm⟩
  ·refine gT l (G_skip (N_then (G_seq (G_block (G_seq (G_quiet (by kernel_rfl) (by kernel_rfl) o (zR [.slice f c.length h, iv b] [(0, .slice f c.length h), (1, .slice g d.length i), (5, iv b), (17, .slice f c.length h), (18, iv b)] ?_)))))))
   obtain ⟨j, y, hm⟩ := gx_bind hm
   refine zV (elemP f (b.toNat * 1)) (fun w_ M_ => (eI (t.mem0 M_) rfl y)) (zV (iv j) (fun w_ M_ => (eE false 1 0 (b.toNat * 1) (t.mem0 M_) y)) (zR [.slice g d.length i, iv b] [(0, .slice f c.length h), (1, .slice g d.length i), (5, iv b), (20, iv j), (21, .slice g d.length i), (22, iv b)] ?_))
   obtain ⟨n, z, hm⟩ := gx_bind hm
   refine zV (elemP g (b.toNat * 1)) (fun w_ M_ => (eI (u.mem0 M_) rfl z)) (zV (iv n) (fun w_ M_ => (eE false 1 0 (b.toNat * 1) (u.mem0 M_) z)) (zR [.bool (j != n)] [(0, .slice f c.length h), (1, .slice g d.length i), (5, iv b), (25, .bool (j != n))] (Z_end fun B q => (N_then ?_))))
   rcases gx_bif hm with ⟨m, hm⟩ | ⟨m, hm⟩
   ·refine gT m (G_seq (G_region (wR 1 [(4, .bool false)] B (W_nil (N_then (G_ret (N_block_ret (N_then_ret (N_then_ret ?_)))))))))
    obtain rfl := Option.some.inj hm
    obtain rfl := x _ rfl
    have hm := v; simp only [Sum.elim_inr] at hm
    refine N_block_ret (N_meet_ret (N_then_ret ?_))
    obtain rfl := Option.some.inj hm
    exact N_ret [.bool false] (rC RVs_nil) (⟨rfl, q.pk []⟩)
   refine gF m (G_skip (N_block (N_then (G_region (wR 3 [(0, .slice f c.length h), (1, .slice g d.length i), (5, iv (w64 (b + 1)))] B (W_nil ?_))))))
   obtain rfl := Option.some.inj hm
   exact N_loop fun a ha => ⟨_, rfl, q.pk [], ha.s⟩
  refine gF l (G_exit (N_then_exit (N_then_exit (N_block_eq ?_))))
  obtain rfl := Option.some.inj hm
  obtain rfl := x _ rfl
  exact N_meet fun a ha => ⟨_, rfl, o.pk [], ha.s⟩
 intro K I ⟨A, hout_, C, E⟩
 refine N_use E ?_
 subst hout_
 have hm := v; simp only [Sum.elim_inl] at hm
 refine N_then (G_seq (G_region (wR 1 [(4, .bool true)] I (W_nil (N_then (G_ret ?_))))))
 obtain rfl := Option.some.inj hm
 exact N_ret [.bool true] (rC RVs_nil) (⟨rfl, C.pk []⟩)
theorem c_l_markStringS (w : World) (h : List ByteArray) (c : Option Addr) (d : Nat) (g : Seg) (H : ownS Gx.encS h c d g) (l : Int) (hA : ∀ q ∈ List.flatten [g], w.heap[q.1]? = some q.2) (hN : (idsOf [g]).Nodup) {r : Int × (List ByteArray)} (hm : M.l_markStringS h l = some r) :
  Calls Try.prog 40 #[.slice c h.length d, iv l] w fun e w' => ∃ (y : Seg), e = .returned (iv r.1) ∧ ownS Gx.encS r.2 c d y ∧ r.2.length = h.length ∧ Mem (idsOf [g]) w w' [y] := by
 unfold M.l_markStringS at hm
 refine cE Try.func40 ?_
 have M0 := Mem.start' w [g] hA hN
 refine G_seq (G_region (wR 1 [(0, .slice c h.length d), (1, iv l)] w (W_nil (N_then (G_seq (G_seq (G_region (wR 1 [(0, .slice c h.length d), (1, iv l), (5, iv 0)] w (W_nil (N_then ?_))))))))))
 obtain ⟨i, N, G⟩ := gx_bind hm
 refine G_meet (fun a w' => ∃ (k : Seg), ownS Gx.encS i.2 c d k ∧ i.2.length = h.length ∧ Mem (idsOf [g]) w w' [k] ∧ Sat Try.f40.ntmps [(1, iv i.1)] a) ?_ ?_
 ·refine G_block (G_while (σ := Int × Int × List ByteArray) (ρ := Int × List ByteArray) (fun b a w' => ∃ (j : Seg), ownS Gx.encS b.2.2 c d j ∧ b.2.2.length = h.length ∧ Mem (idsOf [g]) w w' [j] ∧ Sat Try.f40.ntmps [(0, .slice c b.2.2.length d), (1, iv b.1), (5, iv b.2.1)] a) N (fun a ha => ⟨g, H, rfl, M0.pk [0], ha.s⟩) ?_)
  clear hm
  intro b U hm K S o ⟨j, n, v, t, D⟩
  refine G_use D (G_seq (G_seq (G_region (wR 4 [(0, .slice c b.2.2.length d), (1, iv b.1), (5, iv b.2.1), (9, .bool (decide (b.2.1 < (b.2.2.length : Int))))] o (W_nil (N_then ?_))))))
  rcases gx_bif hm with ⟨m, hm⟩ | ⟨m, hm⟩
  ·refine gT m (G_skip (N_then (G_seq (G_block (G_seq (G_region (wR 3 [(0, .slice c b.2.2.length d), (1, iv b.1), (5, iv b.2.1), (12, .slice c b.2.2.length d), (13, iv b.2.1), (14, iv b.1)] o ?_)))))))
   obtain ⟨f, L, hm⟩ := gx_bind hm
   refine wC 64 #[iv b.1] ((c_l_markText o b.1 L).mono ?_)
   rintro e_ P ⟨rfl, A⟩
   have u := t.call0 A
   refine ⟨_, rfl, ?_⟩
   obtain ⟨R, x, hm⟩ := gx_bind hm
   refine wV (elemP c (b.2.1.toNat * 1)) P (eI (n.rd u 0 (by kernel_rfl)) rfl x) (wE false 1 b.2.1.toNat 0 (b.2.1.toNat * 1) R f (.string f) 0 u n (gxIdx_spec x).2 ?_)
   intro z O J B
   refine wX 0 (.slice c b.2.2.length d) (.slice c (b.2.2.set b.2.1.toNat f).length d) (by rw [@List.length_set _ b.2.2 b.2.1.toNat f]) (wX 12 (.slice c b.2.2.length d) (.slice c (b.2.2.set b.2.1.toNat f).length d) (by rw [@List.length_set _ b.2.2 b.2.1.toNat f]) (W_nil (N_then (G_region (wR 3 [(0, .slice c (b.2.2.set b.2.1.toNat f).length d), (1, iv (w64 (b.1 + 1))), (5, iv b.2.1)] z (W_nil (N_block (N_then (G_region (wR 3 [(0, .slice c (b.2.2.set b.2.1.toNat f).length d), (1, iv (w64 (b.1 + 1))), (5, iv (w64 (b.2.1 + 1)))] z (W_nil ?_)))))))))))
   obtain rfl := Option.some.inj hm
   exact N_loop fun a ha => ⟨_, rfl, O, J, (List.length_set.trans v), B.pk [0], ha.s⟩
  refine gF m (G_exit (N_then_exit (N_then_exit (N_block_eq ?_))))
  obtain rfl := Option.some.inj hm
  obtain rfl := K _ rfl
  exact N_meet fun a ha => ⟨j, n, v, t.pk [0], ha.s⟩
 intro T Q ⟨k, I, F, C, E⟩
 refine N_use E ?_
 have hm := G
 refine N_then (G_seq (G_region (wR 2 [(4, iv i.1)] Q (W_nil (N_then (G_ret ?_))))))
 obtain rfl := Option.some.inj hm
 exact N_ret [iv i.1] (rC RVs_nil) (⟨k, rfl, I, F, C.pk [0]⟩)
theorem c_l_markIntS (w : World) (g : List Int) (c : Option Addr) (d : Nat) (f : Seg) (E : ownS Gx.encI g c d f) (k : Int) (hA : ∀ q ∈ List.flatten [f], w.heap[q.1]? = some q.2) (hN : (idsOf [f]).Nodup) {r : Int × (List Int)} (hm : M.l_markIntS g k = some r) :
  Calls Try.prog 41 #[.slice c g.length d, iv k] w fun e w' => ∃ (v : Seg), e = .returned (iv r.1) ∧ ownS Gx.encI r.2 c d v ∧ r.2.length = g.length ∧ Mem (idsOf [f]) w w' [v] := by
 unfold M.l_markIntS at hm
 refine cE Try.func41 ?_
 have M0 := Mem.start' w [f] hA hN
 refine G_seq (G_region (wR 1 [(0, .slice c g.length d), (1, iv k)] w (W_nil (N_then (G_seq (G_seq (G_region (wR 1 [(0, .slice c g.length d), (1, iv k), (5, iv 0)] w (W_nil (N_then ?_))))))))))
 obtain ⟨h, I, D⟩ := gx_bind hm
 refine G_meet (fun a w' => ∃ (j : Seg), ownS Gx.encI h.2 c d j ∧ h.2.length = g.length ∧ Mem (idsOf [f]) w w' [j] ∧ Sat Try.f41.ntmps [(1, iv h.1)] a) ?_ ?_
 ·refine G_block (G_while (σ := Int × Int × List Int) (ρ := Int × List Int) (fun b a w' => ∃ (i : Seg), ownS Gx.encI b.2.2 c d i ∧ b.2.2.length = g.length ∧ Mem (idsOf [f]) w w' [i] ∧ Sat Try.f41.ntmps [(0, .slice c b.2.2.length d), (1, iv b.1), (5, iv b.2.1)] a) I (fun a ha => ⟨f, E, rfl, M0.pk [0], ha.s⟩) ?_)
  clear hm
  intro b P hm H N o ⟨i, n, t, l, A⟩
  refine G_use A (G_seq (G_seq (G_region (wR 4 [(0, .slice c b.2.2.length d), (1, iv b.1), (5, iv b.2.1), (9, .bool (decide (b.2.1 < (b.2.2.length : Int))))] o (W_nil (N_then ?_))))))
  rcases gx_bif hm with ⟨m, hm⟩ | ⟨m, hm⟩
  ·refine gT m (G_skip (N_then (G_seq (G_block (G_seq (G_region (wR 3 [(0, .slice c b.2.2.length d), (1, iv b.1), (5, iv b.2.1), (12, .slice c b.2.2.length d), (13, iv b.2.1), (14, iv b.1)] o ?_)))))))
   obtain ⟨L, u, hm⟩ := gx_bind hm
   refine wV (elemP c (b.2.1.toNat * 1)) o (eI (n.rd l 0 (by kernel_rfl)) rfl u) (wE false 1 b.2.1.toNat 0 (b.2.1.toNat * 1) L b.1 (iv b.1) 0 l n (gxIdx_spec u).2 ?_)
   intro x J G y
   refine wX 0 (.slice c b.2.2.length d) (.slice c (b.2.2.set b.2.1.toNat b.1).length d) (by rw [@List.length_set _ b.2.2 b.2.1.toNat b.1]) (wX 12 (.slice c b.2.2.length d) (.slice c (b.2.2.set b.2.1.toNat b.1).length d) (by rw [@List.length_set _ b.2.2 b.2.1.toNat b.1]) (W_nil (N_then (G_region (wR 3 [(0, .slice c (b.2.2.set b.2.1.toNat b.1).length d), (1, iv (w64 (b.1 + 1))), (5, iv b.2.1)] x (W_nil (N_block (N_then (G_region (wR 3 [(0, .slice c (b.2.2.set b.2.1.toNat b.1).length d), (1, iv (w64 (b.1 + 1))), (5, iv (w64 (b.2.1 + 1)))] x (W_nil ?_)))))))))))
   obtain rfl := Option.some.inj hm
   exact N_loop fun a ha => ⟨_, rfl, J, G, (List.length_set.trans t), y.pk [0], ha.s⟩
  refine gF m (G_exit (N_then_exit (N_then_exit (N_block_eq ?_))))
  obtain rfl := Option.some.inj hm
  obtain rfl := H _ rfl
  exact N_meet fun a ha => ⟨i, n, t, l.pk [0], ha.s⟩
 intro O K ⟨j, F, C, z, B⟩
 refine N_use B ?_
 have hm := D
 refine N_then (G_seq (G_region (wR 2 [(4, iv h.1)] K (W_nil (N_then (G_ret ?_))))))
 obtain rfl := Option.some.inj hm
 exact N_ret [iv h.1] (rC RVs_nil) (⟨j, rfl, F, C, z.pk [0]⟩)
theorem c_l_heldStringS (w : World) (c : List ByteArray) (d : Option Addr) (f : Nat) (q : rdS Gx.encS w c d f) (h : Int) {r : Int} (hm : M.l_heldStringS c h = some r) :
  Calls Try.prog 42 #[.slice d c.length f, iv h] w fun e w' => e = .returned (iv r) ∧ Mem [] w w' [] := by
 unfold M.l_heldStringS at hm
 refine cE Try.func42 ?_
 have M0 := Mem.refl [] w
 refine G_seq (G_region (wR 1 [(0, .slice d c.length f), (1, iv h)] w (W_nil (N_then (G_seq (G_seq (G_region (wR 1 [(0, .slice d c.length f), (1, iv h), (5, iv 0)] w (W_nil (N_then ?_))))))))))
 obtain ⟨C, B, t⟩ := gx_bind hm
 refine G_meet (fun a w' => ∃ (g : Int), C = .inl g ∧ Mem [] w w' [] ∧ Sat Try.f42.ntmps [(1, iv g)] a) ?_ ?_
 ·refine G_block (G_while (σ := Int × Int) (ρ := (Int) ⊕ (Int)) (fun b a w' => Mem [] w w' [] ∧ Sat Try.f42.ntmps [(0, .slice d c.length f), (1, iv b.1), (5, iv b.2)] a) B (fun a ha => ⟨M0.pk [], ha.s⟩) ?_)
  clear hm
  intro b H hm u F D ⟨n, y⟩
  refine G_use y (G_seq (G_seq (G_region (wR 4 [(0, .slice d c.length f), (1, iv b.1), (5, iv b.2), (9, .bool (decide (b.2 < (c.length : Int))))] D (W_nil (N_then ?_))))))
  rcases gx_bif hm with ⟨j, hm⟩ | ⟨j, hm⟩
  ·refine gT j (G_skip (N_then (G_seq (G_block (G_seq (G_seq (G_quiet (by kernel_rfl) (by kernel_rfl) n (zR [.slice d c.length f, iv b.2] [(0, .slice d c.length f), (1, iv b.1), (5, iv b.2), (12, .slice d c.length f), (13, iv b.2)] ?_))))))))
   obtain ⟨i, v, hm⟩ := gx_bind hm
   refine zV (elemP d (b.2.toNat * 1)) (fun w_ M_ => (eI (q.mem0 M_) rfl v)) (zV (.string i) (fun w_ M_ => (eE false 1 0 (b.2.toNat * 1) (q.mem0 M_) v)) (zR [iv b.1] [(0, .slice d c.length f), (1, iv b.1), (5, iv b.2), (15, .string i), (16, iv b.1)] ?_))
   obtain ⟨l, A, hm⟩ := gx_bind hm
   refine Z_call 64 #[iv b.1] (.string l) (by kernel_rfl) (fun w_ => by kernel_rfl) (fun w_ M_ => (c_l_markText w_ b.1 A).mono fun e w2_ h_ => ⟨h_.1, M_.call0 h_.2⟩) (zR [.bool (!(i.toList == l.toList))] [(0, .slice d c.length f), (1, iv b.1), (5, iv b.2), (18, .bool (!(i.toList == l.toList)))] (Z_end fun m o => (N_then ?_)))
   rcases gx_bif hm with ⟨k, hm⟩ | ⟨k, hm⟩
   ·refine gT k (G_seq (G_region (wR 1 [(4, iv (-1))] m (W_nil (N_then (G_ret (N_then_ret (N_block_ret (N_then_ret (N_then_ret ?_))))))))))
    obtain rfl := Option.some.inj hm
    obtain rfl := u _ rfl
    have hm := t; simp only [Sum.elim_inr] at hm
    refine N_block_ret (N_meet_ret (N_then_ret ?_))
    obtain rfl := Option.some.inj hm
    exact N_ret [iv (-1)] (rC RVs_nil) (⟨rfl, o.pk []⟩)
   refine gF k (G_skip (N_then (G_region (wR 3 [(0, .slice d c.length f), (1, iv (w64 (b.1 + 1))), (5, iv b.2)] m (W_nil (N_block (N_then (G_region (wR 3 [(0, .slice d c.length f), (1, iv (w64 (b.1 + 1))), (5, iv (w64 (b.2 + 1)))] m (W_nil ?_))))))))))
   obtain rfl := Option.some.inj hm
   exact N_loop fun a ha => ⟨_, rfl, o.pk [], ha.s⟩
  refine gF j (G_exit (N_then_exit (N_then_exit (N_block_eq ?_))))
  obtain rfl := Option.some.inj hm
  obtain rfl := u _ rfl
  exact N_meet fun a ha => ⟨_, rfl, n.pk [], ha.s⟩
 intro G E ⟨g, hout_, x, z⟩
 refine N_use z ?_
 subst hout_
 have hm := t; simp only [Sum.elim_inl] at hm
 refine N_then (G_seq (G_region (wR 2 [(4, iv g)] E (W_nil (N_then (G_ret ?_))))))
 obtain rfl := Option.some.inj hm
 exact N_ret [iv g] (rC RVs_nil) (⟨rfl, x.pk []⟩)
end Go.Proofs.Ytfcebglkdfadcaa
