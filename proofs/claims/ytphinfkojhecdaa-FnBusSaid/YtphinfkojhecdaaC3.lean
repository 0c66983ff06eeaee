/- The walks, printed by program: whenever the model gives r, the call returns r. Part 3. -/
import Derived.Test.YtphinfkojhecdaaM
import Derived.Test.YtphinfkojhecdaaProg
import Derived.Test.YtphinfkojhecdaaC2
set_option linter.unusedVariables false
set_option maxRecDepth 100000
set_option maxHeartbeats 4000000
namespace Go.Proofs.Ytphinfkojhecdaa
open Go.Gx
theorem c_l_FnExactSplitAccess (w : World) (x2219 : List Region) (p2221 : Option Addr) (c2222 : Nat) (h2223 : rdS encRegion w x2219 p2221 c2222) (x2224 : Access) {r : Bool} (hm : M.l_FnExactSplitAccess x2219 x2224 = some r) :
    Calls Try.prog 6 #[.slice p2221 x2219.length c2222, .agg #[.int .i64 x2224.Address, .int .i64 x2224.Width, .bool x2224.Store]] w fun e w' => e = .returned (.bool r) ∧ Mem [] w w' [] := by
  unfold M.l_FnExactSplitAccess at hm
  refine C_enter Try.func6 rfl (by kernel_rfl) ?_
  have M0 := Mem.refl [] w
  refine G_seq ?_
  refine G_region ?_
  refine W_new (fun b => .pointer (some ⟨b, 0, none⟩)) (.cells ⟨[.int .i64 x2224.Address, .int .i64 x2224.Width, .bool x2224.Store]⟩ 30 (0, 0)) M0 rfl (by kernel_rfl) (by kernel_rfl) ?_
  intro b2226 w2227 M2228
  refine W_run 1 [(0, .slice p2221 x2219.length c2222), (3, .pointer (some ⟨b2226, 0, none⟩))] w2227 (by kernel_rfl) ?_
  refine W_nil ?_
  refine N_then ?_
  refine G_seq ?_
  refine G_region ?_
  refine W_run 1 [(0, .slice p2221 x2219.length c2222), (3, .pointer (some ⟨b2226, 0, none⟩)), (5, .int .i64 1048576)] w2227 (by kernel_rfl) ?_
  refine W_nil ?_
  refine N_then ?_
  refine G_seq ?_
  refine G_region ?_
  refine W_run 2 [(0, .slice p2221 x2219.length c2222), (3, .pointer (some ⟨b2226, 0, none⟩)), (5, .int .i64 1048576), (16, .slice p2221 x2219.length c2222), (17, .int .i64 1048576)] w2227 (by kernel_rfl) ?_
  obtain ⟨r2229, hr2229, hm⟩ := gx_bind hm
  refine W_call 15 #[.slice p2221 x2219.length c2222, .int .i64 1048576] (by kernel_rfl) (by kernel_rfl) ?_
  refine (c_l_szRegionS w2227 x2219 p2221 c2222 (h2223.mem0 M2228) 1048576 hr2229).mono ?_
  rintro e_ w2230 ⟨rfl, K2231⟩
  have M2232 := M2228.call0 K2231
  refine ⟨_, rfl, ?_⟩
  refine W_run 1 [(0, .slice p2221 x2219.length c2222), (3, .pointer (some ⟨b2226, 0, none⟩)), (5, .int .i64 r2229)] w2230 (by kernel_rfl) ?_
  refine W_nil ?_
  refine N_then ?_
  refine G_seq ?_
  refine G_seq ?_
  refine G_region ?_
  refine W_run 2 [(0, .slice p2221 x2219.length c2222), (3, .pointer (some ⟨b2226, 0, none⟩)), (20, .bool (decide (r2229 < 0)))] w2230 (by kernel_rfl) ?_
  refine W_nil ?_
  refine N_then ?_
  rcases gx_bif hm with ⟨hc2233, hm⟩ | ⟨hc2233, hm⟩
  · refine G_cond_t (b := (decide (r2229 < 0))) hc2233 (by kernel_rfl) ?_
    refine G_seq ?_
    refine G_region ?_
    refine W_run 1 [(4, .bool true)] w2230 (by kernel_rfl) ?_
    refine W_nil ?_
    refine N_then ?_
    refine G_ret ?_
    refine N_then_ret ?_
    obtain rfl := Option.some.inj hm
    refine N_ret [.bool true] (RVs_cons (RV_tmp (by kernel_rfl)) RVs_nil) ?_
    exact ⟨rfl, M2232.pick [] (by kernel_rfl)⟩
  · refine G_cond_f (b := (decide (r2229 < 0))) hc2233 (by kernel_rfl) ?_
    refine G_skip ?_
    refine N_then ?_
    refine G_seq ?_
    obtain ⟨r2236, hr2236, hm⟩ := gx_bind hm
    obtain ⟨r2242, hr2242, hm⟩ := gx_bind hm
    obtain ⟨r2583, hr2583, hm⟩ := gx_bind hm
    refine G_sub [(0, .slice p2221 x2219.length c2222), (3, .pointer (some ⟨b2226, 0, none⟩)), (20, .bool (decide (r2229 < 0)))] (by kernel_rfl) ?_
    refine G_dagL 9 [[], [0], [], [2], [1, 3], [], [5], [5], [6]] [[], [], [], [], [], [], [], [], []] [[], [], [], [], [1], [], [], [], []] [[], [], [], [], [], [4], [4], [4], [4]] [[], [], [], [], [], [4], [4], [], [4]] [[], [], [], [], [], [], [], [], []] (fun _ => []) (fun i => ([fun f v s => v = (.slice p2221 x2219.length c2222 : Value) ∧ s = [], fun f v s => ∃ (p2238 : Option Addr) (c2239 : Nat), v = (.slice p2238 r2236.length c2239 : Value) ∧ ownS encRegion r2236 p2238 c2239 s, fun f v s => v = (.agg #[.int .i64 x2224.Address, .int .i64 x2224.Width, .bool x2224.Store] : Value) ∧ s = [], fun f v s => v = (.agg #[.int .i64 r2242.Address, .int .i64 r2242.Width, .bool r2242.Store] : Value) ∧ s = [], fun f v s => ∃ (p2585 : Option Addr) (c2586 : Nat), v = (.tuple #[.slice p2585 r2583.1.length c2586, .bool r2583.2] : Value) ∧ ownS encAccess r2583.1 p2585 c2586 s, fun f v s => v = (.tuple #[(atPath (f 4) [0]), .bool r2583.2] : Value) ∧ s = [], fun f v s => v = ((atPath (f 4) [0]) : Value) ∧ s = [], fun f v s => v = (.bool r2583.2 : Value) ∧ s = [], fun f v s => v = ((atPath (f 4) [0]) : Value) ∧ s = []] : List ((Nat → Value) → Value → Seg → Prop)).getD i (fun _ _ _ => False)) (fun j f v => ∃ s, (fun i => ([fun f v s => v = (.slice p2221 x2219.length c2222 : Value) ∧ s = [], fun f v s => ∃ (p2238 : Option Addr) (c2239 : Nat), v = (.slice p2238 r2236.length c2239 : Value) ∧ ownS encRegion r2236 p2238 c2239 s, fun f v s => v = (.agg #[.int .i64 x2224.Address, .int .i64 x2224.Width, .bool x2224.Store] : Value) ∧ s = [], fun f v s => v = (.agg #[.int .i64 r2242.Address, .int .i64 r2242.Width, .bool r2242.Store] : Value) ∧ s = [], fun f v s => ∃ (p2585 : Option Addr) (c2586 : Nat), v = (.tuple #[.slice p2585 r2583.1.length c2586, .bool r2583.2] : Value) ∧ ownS encAccess r2583.1 p2585 c2586 s, fun f v s => v = (.tuple #[(atPath (f 4) [0]), .bool r2583.2] : Value) ∧ s = [], fun f v s => v = ((atPath (f 4) [0]) : Value) ∧ s = [], fun f v s => v = (.bool r2583.2 : Value) ∧ s = [], fun f v s => v = ((atPath (f 4) [0]) : Value) ∧ s = []] : List ((Nat → Value) → Value → Seg → Prop)).getD i (fun _ _ _ => False)) j f v s) [] [1, 4, 7, 8] [1, 4] (fun _ _ _ s h => ⟨s, h⟩) (by kernel_rfl) (by kernel_rfl) (M2232.preNil 9) (by kernel_rfl) (by kernel_rfl) (by kernel_rfl) (by kernel_rfl) (allOb_cons ?_ (allOb_cons ?_ (allOb_cons ?_ (allOb_cons ?_ (allOb_cons ?_ (allOb_cons ?_ (allOb_cons ?_ (allOb_cons ?_ (allOb_cons ?_ allOb_nil))))))))) ?_
    · intro g2234 f2235
      intro R w2589 M2590
      refine W_run 1 [(22, .slice p2221 x2219.length c2222)] w2589 (by kernel_rfl) ?_
      exact W_nil (ob_end (.slice p2221 x2219.length c2222) [] rfl (by kernel_rfl) ⟨by kernel_rfl, rfl⟩ M2590)
    · intro g2234 f2235
      intro v0_ hb0_
      obtain ⟨rfl, _⟩ := hb0_
      intro R w2593 M2594
      refine W_call 17 #[.slice p2221 x2219.length c2222] (by kernel_rfl) (by kernel_rfl) ?_
      refine (c_l_toRegionS w2593 x2219 p2221 c2222 (h2223.mem0 M2594) hr2236).mono ?_
      rintro e_ w2595 ⟨p2238, c2239, sg2240, rfl, ho2241, K2597⟩
      refine ⟨_, rfl, ?_⟩
      exact W_nil (ob_end (.slice p2238 r2236.length c2239) sg2240 rfl (by kernel_rfl) ⟨p2238, c2239, rfl, ho2241⟩ (Mem.callMid M2594 K2597))
    · intro g2234 f2235
      intro R w2598 M2599
      refine W_val (.agg #[.int .i64 x2224.Address, .int .i64 x2224.Width, .bool x2224.Store]) w2598 (by kernel_rfl) (E_load (e := 30) (fr := (0, 0)) _ _ true 3 b2226 0 [.int .i64 x2224.Address, .int .i64 x2224.Width, .bool x2224.Store] (.agg #[.int .i64 x2224.Address, .int .i64 x2224.Width, .bool x2224.Store]) rfl (by kernel_rfl) (by kernel_rfl) (by kernel_rfl) (M2599.blk 0 (b := b2226) (o := .cells ⟨[.int .i64 x2224.Address, .int .i64 x2224.Width, .bool x2224.Store]⟩ 30 (0, 0)) (by kernel_rfl))) ?_
      exact W_nil (ob_end (.agg #[.int .i64 x2224.Address, .int .i64 x2224.Width, .bool x2224.Store]) [] rfl (by kernel_rfl) ⟨by kernel_rfl, rfl⟩ M2599)
    · intro g2234 f2235
      intro v2_ hb2_
      obtain ⟨rfl, _⟩ := hb2_
      intro R w2602 M2603
      refine W_call 18 #[.agg #[.int .i64 x2224.Address, .int .i64 x2224.Width, .bool x2224.Store]] (by kernel_rfl) (by kernel_rfl) ?_
      refine (c_l_toAccess w2602 x2224 hr2242).mono ?_
      rintro e_ w2604 ⟨rfl, K2606⟩
      refine ⟨_, rfl, ?_⟩
      exact W_nil (ob_end (.agg #[.int .i64 r2242.Address, .int .i64 r2242.Width, .bool r2242.Store]) [] rfl (by kernel_rfl) ⟨rfl, rfl⟩ (M2603.call0 K2606))
    · intro g2234 f2235
      intro v1_ hb1_
      obtain ⟨p2238, c2239, rfl, ho2241⟩ := hb1_
      intro v3_ hb3_
      obtain ⟨rfl, _⟩ := hb3_
      intro R w2607 M2608
      refine W_call 27 #[.slice p2238 r2236.length c2239, .agg #[.int .i64 r2242.Address, .int .i64 r2242.Width, .bool r2242.Store]] (by kernel_rfl) (by kernel_rfl) ?_
      refine (c_s_SplitAccess w2607 r2236 p2238 c2239 (ho2241.rd M2608 2 (by kernel_rfl)) r2242 hr2583).mono ?_
      rintro e_ w2609 ⟨p2585, c2586, sg2587, rfl, ho2588, K2611⟩
      refine ⟨_, rfl, ?_⟩
      exact W_nil (ob_end (.tuple #[.slice p2585 r2583.1.length c2586, .bool r2583.2]) sg2587 rfl (by kernel_rfl) ⟨p2585, c2586, rfl, ho2588⟩ (Mem.callMid M2608 K2611))
    · intro g2234 f2235
      intro v4_ hb4_
      obtain ⟨_, p2585, c2586, rfl, _⟩ := hb4_
      intro R w2612 M2613
      refine W_run 1 [(21, .tuple #[.slice p2585 r2583.1.length c2586, .bool r2583.2])] w2612 (by kernel_rfl) ?_
      exact W_nil (ob_end (.tuple #[.slice p2585 r2583.1.length c2586, .bool r2583.2]) [] rfl (by kernel_rfl) ⟨by kernel_rfl, rfl⟩ M2613)
    · intro g2234 f2235
      intro v4_ hb4_
      obtain ⟨_, p2585, c2586, rfl, _⟩ := hb4_
      intro v5_ hb5_
      obtain ⟨hv5_, _⟩ := hb5_
      obtain rfl : v5_ = (.tuple #[.slice p2585 r2583.1.length c2586, .bool r2583.2] : Value) := hv5_.trans (by kernel_rfl)
      intro R w2616 M2617
      refine W_run 1 [(27, .slice p2585 r2583.1.length c2586)] w2616 (by kernel_rfl) ?_
      exact W_nil (ob_end (.slice p2585 r2583.1.length c2586) [] rfl (by kernel_rfl) ⟨by kernel_rfl, rfl⟩ M2617)
    · intro g2234 f2235
      intro v4_ hb4_
      obtain ⟨_, p2585, c2586, rfl, _⟩ := hb4_
      intro v5_ hb5_
      obtain ⟨hv5_, _⟩ := hb5_
      obtain rfl : v5_ = (.tuple #[.slice p2585 r2583.1.length c2586, .bool r2583.2] : Value) := hv5_.trans (by kernel_rfl)
      intro R w2620 M2621
      refine W_run 1 [(28, .bool r2583.2)] w2620 (by kernel_rfl) ?_
      exact W_nil (ob_end (.bool r2583.2) [] rfl (by kernel_rfl) ⟨by kernel_rfl, rfl⟩ M2621)
    · intro g2234 f2235
      intro v4_ hb4_
      obtain ⟨_, p2585, c2586, rfl, _⟩ := hb4_
      intro v6_ hb6_
      obtain ⟨hv6_, _⟩ := hb6_
      obtain rfl : v6_ = (.slice p2585 r2583.1.length c2586 : Value) := hv6_.trans (by kernel_rfl)
      intro R w2624 M2625
      refine W_run 1 [(6, .slice p2585 r2583.1.length c2586)] w2624 (by kernel_rfl) ?_
      exact W_nil (ob_end (.slice p2585 r2583.1.length c2586) [] rfl (by kernel_rfl) ⟨by kernel_rfl, rfl⟩ M2625)
    · intro g2234 f2235
      intro v1_ hb1_
      obtain ⟨p2238, c2239, rfl, ho2241⟩ := hb1_
      intro v4_ hb4_
      obtain ⟨p2585, c2586, rfl, ho2588⟩ := hb4_
      intro v7_ hb7_
      obtain ⟨rfl, _⟩ := hb7_
      intro v8_ hb8_
      obtain ⟨hv8_, _⟩ := hb8_
      obtain rfl : v8_ = (.slice p2585 r2583.1.length c2586 : Value) := hv8_.trans (by kernel_rfl)
      intro w2628 M2629
      have M2630 : Mem [] w w2628 [[(b2226, .cells ⟨[.int .i64 x2224.Address, .int .i64 x2224.Width, .bool x2224.Store]⟩ 30 (0, 0))], (g2234 1), (g2234 4)] := M2629
      refine W_run 1 [(0, .slice p2221 x2219.length c2222), (3, .pointer (some ⟨b2226, 0, none⟩)), (6, .slice p2585 r2583.1.length c2586), (7, .bool r2583.2)] w2628 (by kernel_rfl) ?_
      refine W_nil ?_
      refine N_then ?_
      refine G_seq ?_
      refine G_region ?_
      refine W_run 1 [(0, .slice p2221 x2219.length c2222), (3, .pointer (some ⟨b2226, 0, none⟩)), (6, .slice p2585 r2583.1.length c2586), (7, .bool r2583.2), (29, .slice p2221 x2219.length c2222)] w2628 (by kernel_rfl) ?_
      obtain ⟨r2631, hr2631, hm⟩ := gx_bind hm
      refine W_call 17 #[.slice p2221 x2219.length c2222] (by kernel_rfl) (by kernel_rfl) ?_
      refine (c_l_toRegionS w2628 x2219 p2221 c2222 (h2223.mem0 M2630) hr2631).mono ?_
      rintro e_ w2637 ⟨p2633, c2634, sg2635, rfl, ho2636, K2638⟩
      have M2639 := M2630.call K2638
      refine ⟨_, rfl, ?_⟩
      refine W_run 1 [(0, .slice p2221 x2219.length c2222), (3, .pointer (some ⟨b2226, 0, none⟩)), (6, .slice p2585 r2583.1.length c2586), (7, .bool r2583.2), (8, .slice p2633 r2631.length c2634)] w2637 (by kernel_rfl) ?_
      refine W_nil ?_
      refine N_then ?_
      refine G_seq ?_
      refine G_region ?_
      refine W_run 1 [(0, .slice p2221 x2219.length c2222), (3, .pointer (some ⟨b2226, 0, none⟩)), (6, .slice p2585 r2583.1.length c2586), (7, .bool r2583.2), (8, .slice p2633 r2631.length c2634), (32, .slice p2633 r2631.length c2634)] w2637 (by kernel_rfl) ?_
      refine W_val (.agg #[.int .i64 x2224.Address, .int .i64 x2224.Width, .bool x2224.Store]) w2637 (by kernel_rfl) (E_load (e := 30) (fr := (0, 0)) _ _ true 3 b2226 0 [.int .i64 x2224.Address, .int .i64 x2224.Width, .bool x2224.Store] (.agg #[.int .i64 x2224.Address, .int .i64 x2224.Width, .bool x2224.Store]) rfl (by kernel_rfl) (by kernel_rfl) (by kernel_rfl) (M2639.blk 0 (b := b2226) (o := .cells ⟨[.int .i64 x2224.Address, .int .i64 x2224.Width, .bool x2224.Store]⟩ 30 (0, 0)) (by kernel_rfl))) ?_
      obtain ⟨r2640, hr2640, hm⟩ := gx_bind hm
      refine W_call 18 #[.agg #[.int .i64 x2224.Address, .int .i64 x2224.Width, .bool x2224.Store]] (by kernel_rfl) (by kernel_rfl) ?_
      refine (c_l_toAccess w2637 x2224 hr2640).mono ?_
      rintro e_ w2641 ⟨rfl, K2642⟩
      have M2643 := M2639.call0 K2642
      refine ⟨_, rfl, ?_⟩
      obtain ⟨r2858, hr2858, hm⟩ := gx_bind hm
      refine W_call 28 #[.slice p2633 r2631.length c2634, .agg #[.int .i64 r2640.Address, .int .i64 r2640.Width, .bool r2640.Store]] (by kernel_rfl) (by kernel_rfl) ?_
      refine (c_i_SplitAccess w2641 r2631 p2633 c2634 (ho2636.rd M2643 3 (by kernel_rfl)) r2640 hr2858).mono ?_
      rintro e_ w2864 ⟨p2860, c2861, sg2862, rfl, ho2863, K2865⟩
      have M2866 := M2643.call K2865
      refine ⟨_, rfl, ?_⟩
      refine W_run 5 [(0, .slice p2221 x2219.length c2222), (3, .pointer (some ⟨b2226, 0, none⟩)), (6, .slice p2585 r2583.1.length c2586), (7, .bool r2583.2), (8, .slice p2633 r2631.length c2634), (9, .slice p2860 r2858.1.length c2861), (10, .bool r2858.2)] w2864 (by kernel_rfl) ?_
      refine W_nil ?_
      refine N_then ?_
      refine G_seq ?_
      refine G_seq ?_
      obtain ⟨o2941, ho2942, hm2943⟩ := gx_bind hm
      refine G_meet (fun a w' => Mem [] w w' [[(b2226, .cells ⟨[.int .i64 x2224.Address, .int .i64 x2224.Width, .bool x2224.Store]⟩ 30 (0, 0))], (g2234 4), sg2635, sg2862] ∧ Sat Try.f6.ntmps [(0, .slice p2221 x2219.length c2222), (3, .pointer (some ⟨b2226, 0, none⟩)), (6, .slice p2585 r2583.1.length c2586), (7, .bool r2583.2), (8, .slice p2633 r2631.length c2634), (9, .slice p2860 r2858.1.length c2861), (10, .bool r2858.2), (46, .bool o2941)] a) ?_ ?_
      · have hm := ho2942
        refine G_region ?_
        refine W_run 2 [(0, .slice p2221 x2219.length c2222), (3, .pointer (some ⟨b2226, 0, none⟩)), (6, .slice p2585 r2583.1.length c2586), (7, .bool r2583.2), (8, .slice p2633 r2631.length c2634), (9, .slice p2860 r2858.1.length c2861), (10, .bool r2858.2), (38, .slice p2860 r2858.1.length c2861), (39, .slice p2585 r2583.1.length c2586)] w2864 (by kernel_rfl) ?_
        obtain ⟨r2944, hr2944, hm⟩ := gx_bind hm
        refine W_call 29 #[.slice p2860 r2858.1.length c2861, .slice p2585 r2583.1.length c2586] (by kernel_rfl) (by kernel_rfl) ?_
        refine (c_l_eqAccessS w2864 r2858.1 p2860 c2861 (ho2863.rd M2866 4 (by kernel_rfl)) r2583.1 p2585 c2586 (ho2588.rd M2866 2 (by kernel_rfl)) hr2944).mono ?_
        rintro e_ w2945 ⟨rfl, K2946⟩
        have M2947 := M2866.call0 K2946
        refine ⟨_, rfl, ?_⟩
        refine W_run 2 [(0, .slice p2221 x2219.length c2222), (3, .pointer (some ⟨b2226, 0, none⟩)), (6, .slice p2585 r2583.1.length c2586), (7, .bool r2583.2), (8, .slice p2633 r2631.length c2634), (9, .slice p2860 r2858.1.length c2861), (10, .bool r2858.2), (42, .bool (!r2944))] w2945 (by kernel_rfl) ?_
        rcases gx_bif hm with ⟨hc2948, hm⟩ | ⟨hc2948, hm⟩
        · refine W_known 42 true (by kernel_rfl) hc2948 ?_
          refine W_run 4 [(0, .slice p2221 x2219.length c2222), (3, .pointer (some ⟨b2226, 0, none⟩)), (6, .slice p2585 r2583.1.length c2586), (7, .bool r2583.2), (8, .slice p2633 r2631.length c2634), (9, .slice p2860 r2858.1.length c2861), (10, .bool r2858.2), (46, .bool true)] w2945 (by kernel_rfl) ?_
          refine W_nil ?_
          obtain rfl := Option.some.inj hm
          exact N_meet fun a ha => ⟨M2947.pick [0, 2, 3, 4] (by kernel_rfl), ha.sub (by kernel_rfl)⟩
        · refine W_known 42 false (by kernel_rfl) hc2948 ?_
          refine W_run 4 [(0, .slice p2221 x2219.length c2222), (3, .pointer (some ⟨b2226, 0, none⟩)), (6, .slice p2585 r2583.1.length c2586), (7, .bool r2583.2), (8, .slice p2633 r2631.length c2634), (9, .slice p2860 r2858.1.length c2861), (10, .bool r2858.2), (46, .bool (!(r2858.2 == r2583.2)))] w2945 (by kernel_rfl) ?_
          refine W_nil ?_
          obtain rfl := Option.some.inj hm
          exact N_meet fun a ha => ⟨M2947.pick [0, 2, 3, 4] (by kernel_rfl), ha.sub (by kernel_rfl)⟩
      · intro a2951 w2949 ⟨M2950, hS2952⟩
        refine N_use hS2952 ?_
        have hm := hm2943
        refine N_then ?_
        rcases gx_bif hm with ⟨hc2953, hm⟩ | ⟨hc2953, hm⟩
        · refine G_cond_t (b := o2941) hc2953 (by kernel_rfl) ?_
          refine G_seq ?_
          refine G_region ?_
          refine W_run 1 [(4, .bool false)] w2949 (by kernel_rfl) ?_
          refine W_nil ?_
          refine N_then ?_
          refine G_ret ?_
          refine N_then_ret ?_
          obtain rfl := Option.some.inj hm
          refine N_ret [.bool false] (RVs_cons (RV_tmp (by kernel_rfl)) RVs_nil) ?_
          exact ⟨rfl, M2950.pick [] (by kernel_rfl)⟩
        · refine G_cond_f (b := o2941) hc2953 (by kernel_rfl) ?_
          refine G_skip ?_
          refine N_then ?_
          refine G_seq ?_
          refine G_seq ?_
          refine G_region ?_
          refine W_run 2 [(0, .slice p2221 x2219.length c2222), (3, .pointer (some ⟨b2226, 0, none⟩)), (6, .slice p2585 r2583.1.length c2586), (7, .bool r2583.2), (8, .slice p2633 r2631.length c2634), (9, .slice p2860 r2858.1.length c2861), (10, .bool r2858.2), (47, .slice p2633 r2631.length c2634), (48, .slice p2221 x2219.length c2222)] w2949 (by kernel_rfl) ?_
          obtain ⟨r2954, hr2954, hm⟩ := gx_bind hm
          refine W_call 17 #[.slice p2221 x2219.length c2222] (by kernel_rfl) (by kernel_rfl) ?_
          refine (c_l_toRegionS w2949 x2219 p2221 c2222 (h2223.mem0 M2950) hr2954).mono ?_
          rintro e_ w2960 ⟨p2956, c2957, sg2958, rfl, ho2959, K2961⟩
          have M2962 := M2950.call K2961
          refine ⟨_, rfl, ?_⟩
          obtain ⟨r2963, hr2963, hm⟩ := gx_bind hm
          refine W_call 20 #[.slice p2633 r2631.length c2634, .slice p2956 r2954.length c2957] (by kernel_rfl) (by kernel_rfl) ?_
          refine (c_l_eqRegionS w2960 r2631 p2633 c2634 (ho2636.rd M2962 2 (by kernel_rfl)) r2954 p2956 c2957 (ho2959.rd M2962 4 (by kernel_rfl)) hr2963).mono ?_
          rintro e_ w2964 ⟨rfl, K2965⟩
          have M2966 := M2962.call0 K2965
          refine ⟨_, rfl, ?_⟩
          refine W_run 1 [(0, .slice p2221 x2219.length c2222), (3, .pointer (some ⟨b2226, 0, none⟩)), (6, .slice p2585 r2583.1.length c2586), (7, .bool r2583.2), (8, .slice p2633 r2631.length c2634), (9, .slice p2860 r2858.1.length c2861), (10, .bool r2858.2), (51, .bool (!r2963))] w2964 (by kernel_rfl) ?_
          refine W_nil ?_
          refine N_then ?_
          rcases gx_bif hm with ⟨hc2967, hm⟩ | ⟨hc2967, hm⟩
          · refine G_cond_t (b := (!r2963)) hc2967 (by kernel_rfl) ?_
            refine G_seq ?_
            refine G_region ?_
            refine W_run 1 [(4, .bool false)] w2964 (by kernel_rfl) ?_
            refine W_nil ?_
            refine N_then ?_
            refine G_ret ?_
            refine N_then_ret ?_
            obtain rfl := Option.some.inj hm
            refine N_ret [.bool false] (RVs_cons (RV_tmp (by kernel_rfl)) RVs_nil) ?_
            exact ⟨rfl, M2966.pick [] (by kernel_rfl)⟩
          · refine G_cond_f (b := (!r2963)) hc2967 (by kernel_rfl) ?_
            refine G_skip ?_
            refine N_then ?_
            refine G_seq ?_
            refine G_region ?_
            refine W_run 1 [(0, .slice p2221 x2219.length c2222), (3, .pointer (some ⟨b2226, 0, none⟩)), (6, .slice p2585 r2583.1.length c2586), (7, .bool r2583.2), (8, .slice p2633 r2631.length c2634), (9, .slice p2860 r2858.1.length c2861), (10, .bool r2858.2), (11, .int .i64 1)] w2964 (by kernel_rfl) ?_
            refine W_nil ?_
            refine N_then ?_
            refine G_seq ?_
            refine G_region ?_
            refine W_run 2 [(0, .slice p2221 x2219.length c2222), (3, .pointer (some ⟨b2226, 0, none⟩)), (6, .slice p2585 r2583.1.length c2586), (7, .bool r2583.2), (9, .slice p2860 r2858.1.length c2861), (10, .bool r2858.2), (11, .int .i64 1), (52, .slice p2633 r2631.length c2634), (53, .int .i64 1)] w2964 (by kernel_rfl) ?_
            obtain ⟨r2968, hr2968, hm⟩ := gx_bind hm
            refine W_call 24 #[.slice p2633 r2631.length c2634, .int .i64 1] (by kernel_rfl) (by kernel_rfl) ?_
            refine (c_l_markRegionS w2964 r2631 p2633 c2634 sg2635 ho2636 1 (M2966.hasPick [2]) (M2966.nodupPick [2] (by kernel_rfl)) hr2968).mono ?_
            rintro e_ w2972 ⟨sg2969, rfl, ho2970, hl2971, K2973⟩
            have M2974 := M2966.callF' [2] [0, 1, 3, 4] (by kernel_rfl) K2973
            refine ⟨_, rfl, ?_⟩
            refine W_conv 52 (.slice p2633 r2631.length c2634) (.slice p2633 r2968.2.length c2634) (by kernel_rfl) (by first | rw [hl2971] | rw [hl2971]) ?_
            refine W_run 1 [(0, .slice p2221 x2219.length c2222), (3, .pointer (some ⟨b2226, 0, none⟩)), (6, .slice p2585 r2583.1.length c2586), (7, .bool r2583.2), (9, .slice p2860 r2858.1.length c2861), (10, .bool r2858.2), (11, .int .i64 r2968.1)] w2972 (by kernel_rfl) ?_
            refine W_nil ?_
            refine N_then ?_
            refine G_seq ?_
            refine G_seq ?_
            obtain ⟨o2981, ho2982, hm2983⟩ := gx_bind hm
            refine G_meet (fun a w' => Mem [] w w' [[(b2226, .cells ⟨[.int .i64 x2224.Address, .int .i64 x2224.Width, .bool x2224.Store]⟩ 30 (0, 0))], (g2234 4), sg2862] ∧ Sat Try.f6.ntmps [(0, .slice p2221 x2219.length c2222), (3, .pointer (some ⟨b2226, 0, none⟩)), (6, .slice p2585 r2583.1.length c2586), (7, .bool r2583.2), (9, .slice p2860 r2858.1.length c2861), (67, .bool o2981)] a) ?_ ?_
            · have hm := ho2982
              refine G_region ?_
              refine W_run 3 [(0, .slice p2221 x2219.length c2222), (3, .pointer (some ⟨b2226, 0, none⟩)), (6, .slice p2585 r2583.1.length c2586), (7, .bool r2583.2), (9, .slice p2860 r2858.1.length c2861), (10, .bool r2858.2), (57, .bool (decide (r2968.1 < 0)))] w2972 (by kernel_rfl) ?_
              rcases gx_bif hm with ⟨hc2984, hm⟩ | ⟨hc2984, hm⟩
              · refine W_known 57 true (by kernel_rfl) hc2984 ?_
                refine W_run 10 [(0, .slice p2221 x2219.length c2222), (3, .pointer (some ⟨b2226, 0, none⟩)), (6, .slice p2585 r2583.1.length c2586), (7, .bool r2583.2), (9, .slice p2860 r2858.1.length c2861), (67, .bool true)] w2972 (by kernel_rfl) ?_
                refine W_nil ?_
                obtain rfl := Option.some.inj hm
                exact N_meet fun a ha => ⟨M2974.pick [0, 1, 2] (by kernel_rfl), ha.sub (by kernel_rfl)⟩
              · refine W_known 57 false (by kernel_rfl) hc2984 ?_
                refine W_run 2 [(0, .slice p2221 x2219.length c2222), (3, .pointer (some ⟨b2226, 0, none⟩)), (6, .slice p2585 r2583.1.length c2586), (7, .bool r2583.2), (9, .slice p2860 r2858.1.length c2861), (10, .bool r2858.2), (57, .bool false), (58, .slice p2860 r2858.1.length c2861), (59, .slice p2585 r2583.1.length c2586)] w2972 (by kernel_rfl) ?_
                obtain ⟨r2985, hr2985, hm⟩ := gx_bind hm
                refine W_call 29 #[.slice p2860 r2858.1.length c2861, .slice p2585 r2583.1.length c2586] (by kernel_rfl) (by kernel_rfl) ?_
                refine (c_l_eqAccessS w2972 r2858.1 p2860 c2861 (ho2863.rd M2974 2 (by kernel_rfl)) r2583.1 p2585 c2586 (ho2588.rd M2974 1 (by kernel_rfl)) hr2985).mono ?_
                rintro e_ w2986 ⟨rfl, K2987⟩
                have M2988 := M2974.call0 K2987
                refine ⟨_, rfl, ?_⟩
                refine W_run 3 [(0, .slice p2221 x2219.length c2222), (3, .pointer (some ⟨b2226, 0, none⟩)), (6, .slice p2585 r2583.1.length c2586), (7, .bool r2583.2), (9, .slice p2860 r2858.1.length c2861), (10, .bool r2858.2), (63, .bool (!r2985))] w2986 (by kernel_rfl) ?_
                rcases gx_bif hm with ⟨hc2989, hm⟩ | ⟨hc2989, hm⟩
                · refine W_known 63 true (by kernel_rfl) hc2989 ?_
                  refine W_run 4 [(0, .slice p2221 x2219.length c2222), (3, .pointer (some ⟨b2226, 0, none⟩)), (6, .slice p2585 r2583.1.length c2586), (7, .bool r2583.2), (9, .slice p2860 r2858.1.length c2861), (67, .bool true)] w2986 (by kernel_rfl) ?_
                  refine W_nil ?_
                  obtain rfl := Option.some.inj hm
                  exact N_meet fun a ha => ⟨M2988.pick [0, 1, 2] (by kernel_rfl), ha.sub (by kernel_rfl)⟩
                · refine W_known 63 false (by kernel_rfl) hc2989 ?_
                  refine W_run 4 [(0, .slice p2221 x2219.length c2222), (3, .pointer (some ⟨b2226, 0, none⟩)), (6, .slice p2585 r2583.1.length c2586), (7, .bool r2583.2), (9, .slice p2860 r2858.1.length c2861), (67, .bool (!(r2858.2 == r2583.2)))] w2986 (by kernel_rfl) ?_
                  refine W_nil ?_
                  obtain rfl := Option.some.inj hm
                  exact N_meet fun a ha => ⟨M2988.pick [0, 1, 2] (by kernel_rfl), ha.sub (by kernel_rfl)⟩
            · intro a2992 w2990 ⟨M2991, hS2993⟩
              refine N_use hS2993 ?_
              have hm := hm2983
              refine N_then ?_
              rcases gx_bif hm with ⟨hc2994, hm⟩ | ⟨hc2994, hm⟩
              · refine G_cond_t (b := o2981) hc2994 (by kernel_rfl) ?_
                refine G_seq ?_
                refine G_region ?_
                refine W_run 1 [(4, .bool false)] w2990 (by kernel_rfl) ?_
                refine W_nil ?_
                refine N_then ?_
                refine G_ret ?_
                refine N_then_ret ?_
                obtain rfl := Option.some.inj hm
                refine N_ret [.bool false] (RVs_cons (RV_tmp (by kernel_rfl)) RVs_nil) ?_
                exact ⟨rfl, M2991.pick [] (by kernel_rfl)⟩
              · refine G_cond_f (b := o2981) hc2994 (by kernel_rfl) ?_
                refine G_skip ?_
                refine N_then ?_
                refine G_seq ?_
                refine G_region ?_
                refine W_run 1 [(0, .slice p2221 x2219.length c2222), (3, .pointer (some ⟨b2226, 0, none⟩)), (6, .slice p2585 r2583.1.length c2586), (7, .bool r2583.2), (9, .slice p2860 r2858.1.length c2861), (12, .int .i64 1)] w2990 (by kernel_rfl) ?_
                refine W_nil ?_
                refine N_then ?_
                refine G_seq ?_
                refine G_region ?_
                refine W_run 2 [(0, .slice p2221 x2219.length c2222), (3, .pointer (some ⟨b2226, 0, none⟩)), (6, .slice p2585 r2583.1.length c2586), (7, .bool r2583.2), (9, .slice p2860 r2858.1.length c2861), (12, .int .i64 1), (68, .slice p2860 r2858.1.length c2861), (69, .int .i64 1)] w2990 (by kernel_rfl) ?_
                obtain ⟨r3075, hr3075, hm⟩ := gx_bind hm
                refine W_call 30 #[.slice p2860 r2858.1.length c2861, .int .i64 1] (by kernel_rfl) (by kernel_rfl) ?_
                refine (c_l_markAccessS w2990 r2858.1 p2860 c2861 sg2862 ho2863 1 (M2991.hasPick [2]) (M2991.nodupPick [2] (by kernel_rfl)) hr3075).mono ?_
                rintro e_ w3079 ⟨sg3076, rfl, ho3077, hl3078, K3080⟩
                have M3081 := M2991.callF' [2] [0, 1] (by kernel_rfl) K3080
                refine ⟨_, rfl, ?_⟩
                refine W_conv 9 (.slice p2860 r2858.1.length c2861) (.slice p2860 r3075.2.length c2861) (by kernel_rfl) (by first | rw [hl3078] | rw [hl3078]) ?_
                refine W_conv 68 (.slice p2860 r2858.1.length c2861) (.slice p2860 r3075.2.length c2861) (by kernel_rfl) (by first | rw [hl3078] | rw [hl3078]) ?_
                refine W_run 1 [(0, .slice p2221 x2219.length c2222), (3, .pointer (some ⟨b2226, 0, none⟩)), (6, .slice p2585 r2583.1.length c2586), (7, .bool r2583.2), (9, .slice p2860 r3075.2.length c2861), (12, .int .i64 r3075.1)] w3079 (by kernel_rfl) ?_
                refine W_nil ?_
                refine N_then ?_
                refine G_seq ?_
                refine G_region ?_
                refine W_run 1 [(0, .slice p2221 x2219.length c2222), (3, .pointer (some ⟨b2226, 0, none⟩)), (6, .slice p2585 r2583.1.length c2586), (7, .bool r2583.2), (9, .slice p2860 r3075.2.length c2861), (12, .int .i64 r3075.1), (13, .int .i64 1)] w3079 (by kernel_rfl) ?_
                refine W_nil ?_
                refine N_then ?_
                refine G_seq ?_
                refine G_region ?_
                refine W_run 2 [(0, .slice p2221 x2219.length c2222), (3, .pointer (some ⟨b2226, 0, none⟩)), (6, .slice p2585 r2583.1.length c2586), (7, .bool r2583.2), (9, .slice p2860 r3075.2.length c2861), (12, .int .i64 r3075.1), (13, .int .i64 1), (71, .slice p2860 r3075.2.length c2861), (72, .int .i64 1)] w3079 (by kernel_rfl) ?_
                obtain ⟨r3124, hr3124, hm⟩ := gx_bind hm
                refine W_call 31 #[.slice p2860 r3075.2.length c2861, .int .i64 1] (by kernel_rfl) (by kernel_rfl) ?_
                refine (c_l_heldAccessS w3079 r3075.2 p2860 c2861 (ho3077.rd M3081 2 (by kernel_rfl)) 1 hr3124).mono ?_
                rintro e_ w3125 ⟨rfl, K3126⟩
                have M3127 := M3081.call0 K3126
                refine ⟨_, rfl, ?_⟩
                refine W_run 1 [(0, .slice p2221 x2219.length c2222), (3, .pointer (some ⟨b2226, 0, none⟩)), (6, .slice p2585 r2583.1.length c2586), (7, .bool r2583.2), (9, .slice p2860 r3075.2.length c2861), (12, .int .i64 r3075.1), (13, .int .i64 r3124)] w3125 (by kernel_rfl) ?_
                refine W_nil ?_
                refine N_then ?_
                refine G_seq ?_
                refine G_seq ?_
                refine G_region ?_
                refine W_run 2 [(0, .slice p2221 x2219.length c2222), (3, .pointer (some ⟨b2226, 0, none⟩)), (6, .slice p2585 r2583.1.length c2586), (7, .bool r2583.2), (9, .slice p2860 r3075.2.length c2861), (12, .int .i64 r3075.1), (13, .int .i64 r3124), (75, .bool (decide (r3124 < 0)))] w3125 (by kernel_rfl) ?_
                refine W_nil ?_
                refine N_then ?_
                rcases gx_bif hm with ⟨hc3128, hm⟩ | ⟨hc3128, hm⟩
                · refine G_cond_t (b := (decide (r3124 < 0))) hc3128 (by kernel_rfl) ?_
                  refine G_seq ?_
                  refine G_region ?_
                  refine W_run 1 [(4, .bool false)] w3125 (by kernel_rfl) ?_
                  refine W_nil ?_
                  refine N_then ?_
                  refine G_ret ?_
                  refine N_then_ret ?_
                  obtain rfl := Option.some.inj hm
                  refine N_ret [.bool false] (RVs_cons (RV_tmp (by kernel_rfl)) RVs_nil) ?_
                  exact ⟨rfl, M3127.pick [] (by kernel_rfl)⟩
                · refine G_cond_f (b := (decide (r3124 < 0))) hc3128 (by kernel_rfl) ?_
                  refine G_skip ?_
                  refine N_then ?_
                  refine G_seq ?_
                  refine G_seq ?_
                  refine G_region ?_
                  refine W_run 3 [(0, .slice p2221 x2219.length c2222), (3, .pointer (some ⟨b2226, 0, none⟩)), (6, .slice p2585 r2583.1.length c2586), (7, .bool r2583.2), (9, .slice p2860 r3075.2.length c2861), (12, .int .i64 r3075.1), (78, .bool (r3124 != r3075.1))] w3125 (by kernel_rfl) ?_
                  refine W_nil ?_
                  refine N_then ?_
                  rcases gx_bif hm with ⟨hc3129, hm⟩ | ⟨hc3129, hm⟩
                  · refine G_cond_t (b := (r3124 != r3075.1)) hc3129 (by kernel_rfl) ?_
                    refine G_seq ?_
                    refine G_region ?_
                    refine W_run 1 [(4, .bool false)] w3125 (by kernel_rfl) ?_
                    refine W_nil ?_
                    refine N_then ?_
                    refine G_ret ?_
                    refine N_then_ret ?_
                    obtain rfl := Option.some.inj hm
                    refine N_ret [.bool false] (RVs_cons (RV_tmp (by kernel_rfl)) RVs_nil) ?_
                    exact ⟨rfl, M3127.pick [] (by kernel_rfl)⟩
                  · refine G_cond_f (b := (r3124 != r3075.1)) hc3129 (by kernel_rfl) ?_
                    refine G_skip ?_
                    refine N_then ?_
                    refine G_seq ?_
                    obtain ⟨r3132, hr3132, hm⟩ := gx_bind hm
                    obtain ⟨r3138, hr3138, hm⟩ := gx_bind hm
                    obtain ⟨r3139, hr3139, hm⟩ := gx_bind hm
                    refine G_sub [(0, .slice p2221 x2219.length c2222), (3, .pointer (some ⟨b2226, 0, none⟩)), (6, .slice p2585 r2583.1.length c2586), (7, .bool r2583.2), (9, .slice p2860 r3075.2.length c2861), (12, .int .i64 r3075.1), (78, .bool (r3124 != r3075.1))] (by kernel_rfl) ?_
                    refine G_dagL 9 [[], [0], [], [2], [1, 3], [], [5], [5], [6]] [[], [], [], [], [], [], [], [], []] [[], [], [], [], [1], [], [], [], []] [[], [], [], [], [], [4], [4], [4], [4]] [[], [], [], [], [], [4], [4], [], [4]] [[], [], [], [], [], [], [], [], []] (fun _ => []) (fun i => ([fun f v s => v = (.slice p2221 x2219.length c2222 : Value) ∧ s = [], fun f v s => ∃ (p3134 : Option Addr) (c3135 : Nat), v = (.slice p3134 r3132.length c3135 : Value) ∧ ownS encRegion r3132 p3134 c3135 s, fun f v s => v = (.agg #[.int .i64 x2224.Address, .int .i64 x2224.Width, .bool x2224.Store] : Value) ∧ s = [], fun f v s => v = (.agg #[.int .i64 r3138.Address, .int .i64 r3138.Width, .bool r3138.Store] : Value) ∧ s = [], fun f v s => ∃ (p3141 : Option Addr) (c3142 : Nat), v = (.tuple #[.slice p3141 r3139.1.length c3142, .bool r3139.2] : Value) ∧ ownS encAccess r3139.1 p3141 c3142 s, fun f v s => v = (.tuple #[(atPath (f 4) [0]), .bool r3139.2] : Value) ∧ s = [], fun f v s => v = ((atPath (f 4) [0]) : Value) ∧ s = [], fun f v s => v = (.bool r3139.2 : Value) ∧ s = [], fun f v s => v = ((atPath (f 4) [0]) : Value) ∧ s = []] : List ((Nat → Value) → Value → Seg → Prop)).getD i (fun _ _ _ => False)) (fun j f v => ∃ s, (fun i => ([fun f v s => v = (.slice p2221 x2219.length c2222 : Value) ∧ s = [], fun f v s => ∃ (p3134 : Option Addr) (c3135 : Nat), v = (.slice p3134 r3132.length c3135 : Value) ∧ ownS encRegion r3132 p3134 c3135 s, fun f v s => v = (.agg #[.int .i64 x2224.Address, .int .i64 x2224.Width, .bool x2224.Store] : Value) ∧ s = [], fun f v s => v = (.agg #[.int .i64 r3138.Address, .int .i64 r3138.Width, .bool r3138.Store] : Value) ∧ s = [], fun f v s => ∃ (p3141 : Option Addr) (c3142 : Nat), v = (.tuple #[.slice p3141 r3139.1.length c3142, .bool r3139.2] : Value) ∧ ownS encAccess r3139.1 p3141 c3142 s, fun f v s => v = (.tuple #[(atPath (f 4) [0]), .bool r3139.2] : Value) ∧ s = [], fun f v s => v = ((atPath (f 4) [0]) : Value) ∧ s = [], fun f v s => v = (.bool r3139.2 : Value) ∧ s = [], fun f v s => v = ((atPath (f 4) [0]) : Value) ∧ s = []] : List ((Nat → Value) → Value → Seg → Prop)).getD i (fun _ _ _ => False)) j f v s) [] [1, 4, 7, 8] [1, 4] (fun _ _ _ s h => ⟨s, h⟩) (by kernel_rfl) (by kernel_rfl) (M3127.preNil 9) (by kernel_rfl) (by kernel_rfl) (by kernel_rfl) (by kernel_rfl) (allOb_cons ?_ (allOb_cons ?_ (allOb_cons ?_ (allOb_cons ?_ (allOb_cons ?_ (allOb_cons ?_ (allOb_cons ?_ (allOb_cons ?_ (allOb_cons ?_ allOb_nil))))))))) ?_
                    · intro g3130 f3131
                      intro R w3145 M3146
                      refine W_run 1 [(80, .slice p2221 x2219.length c2222)] w3145 (by kernel_rfl) ?_
                      exact W_nil (ob_end (.slice p2221 x2219.length c2222) [] rfl (by kernel_rfl) ⟨by kernel_rfl, rfl⟩ M3146)
                    · intro g3130 f3131
                      intro v0_ hb0_
                      obtain ⟨rfl, _⟩ := hb0_
                      intro R w3149 M3150
                      refine W_call 17 #[.slice p2221 x2219.length c2222] (by kernel_rfl) (by kernel_rfl) ?_
                      refine (c_l_toRegionS w3149 x2219 p2221 c2222 (h2223.mem0 M3150) hr3132).mono ?_
                      rintro e_ w3151 ⟨p3134, c3135, sg3136, rfl, ho3137, K3153⟩
                      refine ⟨_, rfl, ?_⟩
                      exact W_nil (ob_end (.slice p3134 r3132.length c3135) sg3136 rfl (by kernel_rfl) ⟨p3134, c3135, rfl, ho3137⟩ (Mem.callMid M3150 K3153))
                    · intro g3130 f3131
                      intro R w3154 M3155
                      refine W_val (.agg #[.int .i64 x2224.Address, .int .i64 x2224.Width, .bool x2224.Store]) w3154 (by kernel_rfl) (E_load (e := 30) (fr := (0, 0)) _ _ true 3 b2226 0 [.int .i64 x2224.Address, .int .i64 x2224.Width, .bool x2224.Store] (.agg #[.int .i64 x2224.Address, .int .i64 x2224.Width, .bool x2224.Store]) rfl (by kernel_rfl) (by kernel_rfl) (by kernel_rfl) (M3155.blk 0 (b := b2226) (o := .cells ⟨[.int .i64 x2224.Address, .int .i64 x2224.Width, .bool x2224.Store]⟩ 30 (0, 0)) (by kernel_rfl))) ?_
                      exact W_nil (ob_end (.agg #[.int .i64 x2224.Address, .int .i64 x2224.Width, .bool x2224.Store]) [] rfl (by kernel_rfl) ⟨by kernel_rfl, rfl⟩ M3155)
                    · intro g3130 f3131
                      intro v2_ hb2_
                      obtain ⟨rfl, _⟩ := hb2_
                      intro R w3158 M3159
                      refine W_call 18 #[.agg #[.int .i64 x2224.Address, .int .i64 x2224.Width, .bool x2224.Store]] (by kernel_rfl) (by kernel_rfl) ?_
                      refine (c_l_toAccess w3158 x2224 hr3138).mono ?_
                      rintro e_ w3160 ⟨rfl, K3162⟩
                      refine ⟨_, rfl, ?_⟩
                      exact W_nil (ob_end (.agg #[.int .i64 r3138.Address, .int .i64 r3138.Width, .bool r3138.Store]) [] rfl (by kernel_rfl) ⟨rfl, rfl⟩ (M3159.call0 K3162))
                    · intro g3130 f3131
                      intro v1_ hb1_
                      obtain ⟨p3134, c3135, rfl, ho3137⟩ := hb1_
                      intro v3_ hb3_
                      obtain ⟨rfl, _⟩ := hb3_
                      intro R w3163 M3164
                      refine W_call 28 #[.slice p3134 r3132.length c3135, .agg #[.int .i64 r3138.Address, .int .i64 r3138.Width, .bool r3138.Store]] (by kernel_rfl) (by kernel_rfl) ?_
                      refine (c_i_SplitAccess w3163 r3132 p3134 c3135 (ho3137.rd M3164 4 (by kernel_rfl)) r3138 hr3139).mono ?_
                      rintro e_ w3165 ⟨p3141, c3142, sg3143, rfl, ho3144, K3167⟩
                      refine ⟨_, rfl, ?_⟩
                      exact W_nil (ob_end (.tuple #[.slice p3141 r3139.1.length c3142, .bool r3139.2]) sg3143 rfl (by kernel_rfl) ⟨p3141, c3142, rfl, ho3144⟩ (Mem.callMid M3164 K3167))
                    · intro g3130 f3131
                      intro v4_ hb4_
                      obtain ⟨_, p3141, c3142, rfl, _⟩ := hb4_
                      intro R w3168 M3169
                      refine W_run 1 [(79, .tuple #[.slice p3141 r3139.1.length c3142, .bool r3139.2])] w3168 (by kernel_rfl) ?_
                      exact W_nil (ob_end (.tuple #[.slice p3141 r3139.1.length c3142, .bool r3139.2]) [] rfl (by kernel_rfl) ⟨by kernel_rfl, rfl⟩ M3169)
                    · intro g3130 f3131
                      intro v4_ hb4_
                      obtain ⟨_, p3141, c3142, rfl, _⟩ := hb4_
                      intro v5_ hb5_
                      obtain ⟨hv5_, _⟩ := hb5_
                      obtain rfl : v5_ = (.tuple #[.slice p3141 r3139.1.length c3142, .bool r3139.2] : Value) := hv5_.trans (by kernel_rfl)
                      intro R w3172 M3173
                      refine W_run 1 [(85, .slice p3141 r3139.1.length c3142)] w3172 (by kernel_rfl) ?_
                      exact W_nil (ob_end (.slice p3141 r3139.1.length c3142) [] rfl (by kernel_rfl) ⟨by kernel_rfl, rfl⟩ M3173)
                    · intro g3130 f3131
                      intro v4_ hb4_
                      obtain ⟨_, p3141, c3142, rfl, _⟩ := hb4_
                      intro v5_ hb5_
                      obtain ⟨hv5_, _⟩ := hb5_
                      obtain rfl : v5_ = (.tuple #[.slice p3141 r3139.1.length c3142, .bool r3139.2] : Value) := hv5_.trans (by kernel_rfl)
                      intro R w3176 M3177
                      refine W_run 1 [(86, .bool r3139.2)] w3176 (by kernel_rfl) ?_
                      exact W_nil (ob_end (.bool r3139.2) [] rfl (by kernel_rfl) ⟨by kernel_rfl, rfl⟩ M3177)
                    · intro g3130 f3131
                      intro v4_ hb4_
                      obtain ⟨_, p3141, c3142, rfl, _⟩ := hb4_
                      intro v6_ hb6_
                      obtain ⟨hv6_, _⟩ := hb6_
                      obtain rfl : v6_ = (.slice p3141 r3139.1.length c3142 : Value) := hv6_.trans (by kernel_rfl)
                      intro R w3180 M3181
                      refine W_run 1 [(14, .slice p3141 r3139.1.length c3142)] w3180 (by kernel_rfl) ?_
                      exact W_nil (ob_end (.slice p3141 r3139.1.length c3142) [] rfl (by kernel_rfl) ⟨by kernel_rfl, rfl⟩ M3181)
                    · intro g3130 f3131
                      intro v1_ hb1_
                      obtain ⟨p3134, c3135, rfl, ho3137⟩ := hb1_
                      intro v4_ hb4_
                      obtain ⟨p3141, c3142, rfl, ho3144⟩ := hb4_
                      intro v7_ hb7_
                      obtain ⟨rfl, _⟩ := hb7_
                      intro v8_ hb8_
                      obtain ⟨hv8_, _⟩ := hb8_
                      obtain rfl : v8_ = (.slice p3141 r3139.1.length c3142 : Value) := hv8_.trans (by kernel_rfl)
                      intro w3184 M3185
                      have M3186 : Mem [] w w3184 [[(b2226, .cells ⟨[.int .i64 x2224.Address, .int .i64 x2224.Width, .bool x2224.Store]⟩ 30 (0, 0))], (g2234 4), sg3076, (g3130 1), (g3130 4)] := M3185
                      refine W_run 1 [(6, .slice p2585 r2583.1.length c2586), (7, .bool r2583.2), (9, .slice p2860 r3075.2.length c2861), (12, .int .i64 r3075.1), (14, .slice p3141 r3139.1.length c3142), (15, .bool r3139.2)] w3184 (by kernel_rfl) ?_
                      refine W_nil ?_
                      refine N_then ?_
                      refine G_seq ?_
                      refine G_seq ?_
                      obtain ⟨o3192, ho3193, hm3194⟩ := gx_bind hm
                      refine G_meet (fun a w' => Mem [] w w' [sg3076] ∧ Sat Try.f6.ntmps [(9, .slice p2860 r3075.2.length c2861), (12, .int .i64 r3075.1), (95, .bool o3192)] a) ?_ ?_
                      · have hm := ho3193
                        refine G_region ?_
                        refine W_run 2 [(7, .bool r2583.2), (9, .slice p2860 r3075.2.length c2861), (12, .int .i64 r3075.1), (15, .bool r3139.2), (87, .slice p3141 r3139.1.length c3142), (88, .slice p2585 r2583.1.length c2586)] w3184 (by kernel_rfl) ?_
                        obtain ⟨r3195, hr3195, hm⟩ := gx_bind hm
                        refine W_call 29 #[.slice p3141 r3139.1.length c3142, .slice p2585 r2583.1.length c2586] (by kernel_rfl) (by kernel_rfl) ?_
                        refine (c_l_eqAccessS w3184 r3139.1 p3141 c3142 (ho3144.rd M3186 4 (by kernel_rfl)) r2583.1 p2585 c2586 (ho2588.rd M3186 1 (by kernel_rfl)) hr3195).mono ?_
                        rintro e_ w3196 ⟨rfl, K3197⟩
                        have M3198 := M3186.call0 K3197
                        refine ⟨_, rfl, ?_⟩
                        refine W_run 2 [(7, .bool r2583.2), (9, .slice p2860 r3075.2.length c2861), (12, .int .i64 r3075.1), (15, .bool r3139.2), (91, .bool (!r3195))] w3196 (by kernel_rfl) ?_
                        rcases gx_bif hm with ⟨hc3199, hm⟩ | ⟨hc3199, hm⟩
                        · refine W_known 91 true (by kernel_rfl) hc3199 ?_
                          refine W_run 4 [(9, .slice p2860 r3075.2.length c2861), (12, .int .i64 r3075.1), (95, .bool true)] w3196 (by kernel_rfl) ?_
                          refine W_nil ?_
                          obtain rfl := Option.some.inj hm
                          exact N_meet fun a ha => ⟨M3198.pick [2] (by kernel_rfl), ha.sub (by kernel_rfl)⟩
                        · refine W_known 91 false (by kernel_rfl) hc3199 ?_
                          refine W_run 4 [(9, .slice p2860 r3075.2.length c2861), (12, .int .i64 r3075.1), (95, .bool (!(r3139.2 == r2583.2)))] w3196 (by kernel_rfl) ?_
                          refine W_nil ?_
                          obtain rfl := Option.some.inj hm
                          exact N_meet fun a ha => ⟨M3198.pick [2] (by kernel_rfl), ha.sub (by kernel_rfl)⟩
                      · intro a3202 w3200 ⟨M3201, hS3203⟩
                        refine N_use hS3203 ?_
                        have hm := hm3194
                        refine N_then ?_
                        rcases gx_bif hm with ⟨hc3204, hm⟩ | ⟨hc3204, hm⟩
                        · refine G_cond_t (b := o3192) hc3204 (by kernel_rfl) ?_
                          refine G_seq ?_
                          refine G_region ?_
                          refine W_run 1 [(4, .bool false)] w3200 (by kernel_rfl) ?_
                          refine W_nil ?_
                          refine N_then ?_
                          refine G_ret ?_
                          refine N_then_ret ?_
                          obtain rfl := Option.some.inj hm
                          refine N_ret [.bool false] (RVs_cons (RV_tmp (by kernel_rfl)) RVs_nil) ?_
                          exact ⟨rfl, M3201.pick [] (by kernel_rfl)⟩
                        · refine G_cond_f (b := o3192) hc3204 (by kernel_rfl) ?_
                          refine G_skip ?_
                          refine N_then ?_
                          refine G_seq ?_
                          refine G_region ?_
                          refine W_run 1 [(9, .slice p2860 r3075.2.length c2861), (12, .int .i64 r3075.1), (13, .int .i64 1)] w3200 (by kernel_rfl) ?_
                          refine W_nil ?_
                          refine N_then ?_
                          refine G_seq ?_
                          refine G_region ?_
                          refine W_run 2 [(12, .int .i64 r3075.1), (13, .int .i64 1), (96, .slice p2860 r3075.2.length c2861), (97, .int .i64 1)] w3200 (by kernel_rfl) ?_
                          obtain ⟨r3205, hr3205, hm⟩ := gx_bind hm
                          refine W_call 31 #[.slice p2860 r3075.2.length c2861, .int .i64 1] (by kernel_rfl) (by kernel_rfl) ?_
                          refine (c_l_heldAccessS w3200 r3075.2 p2860 c2861 (ho3077.rd M3201 0 (by kernel_rfl)) 1 hr3205).mono ?_
                          rintro e_ w3206 ⟨rfl, K3207⟩
                          have M3208 := M3201.call0 K3207
                          refine ⟨_, rfl, ?_⟩
                          refine W_run 1 [(12, .int .i64 r3075.1), (13, .int .i64 r3205)] w3206 (by kernel_rfl) ?_
                          refine W_nil ?_
                          refine N_then ?_
                          refine G_seq ?_
                          refine G_seq ?_
                          refine G_region ?_
                          refine W_run 2 [(12, .int .i64 r3075.1), (13, .int .i64 r3205), (100, .bool (decide (r3205 < 0)))] w3206 (by kernel_rfl) ?_
                          refine W_nil ?_
                          refine N_then ?_
                          rcases gx_bif hm with ⟨hc3209, hm⟩ | ⟨hc3209, hm⟩
                          · refine G_cond_t (b := (decide (r3205 < 0))) hc3209 (by kernel_rfl) ?_
                            refine G_seq ?_
                            refine G_region ?_
                            refine W_run 1 [(4, .bool false)] w3206 (by kernel_rfl) ?_
                            refine W_nil ?_
                            refine N_then ?_
                            refine G_ret ?_
                            refine N_then_ret ?_
                            obtain rfl := Option.some.inj hm
                            refine N_ret [.bool false] (RVs_cons (RV_tmp (by kernel_rfl)) RVs_nil) ?_
                            exact ⟨rfl, M3208.pick [] (by kernel_rfl)⟩
                          · refine G_cond_f (b := (decide (r3205 < 0))) hc3209 (by kernel_rfl) ?_
                            refine G_skip ?_
                            refine N_then ?_
                            refine G_seq ?_
                            refine G_seq ?_
                            refine G_region ?_
                            refine W_run 3 [(103, .bool (r3205 != r3075.1))] w3206 (by kernel_rfl) ?_
                            refine W_nil ?_
                            refine N_then ?_
                            rcases gx_bif hm with ⟨hc3210, hm⟩ | ⟨hc3210, hm⟩
                            · refine G_cond_t (b := (r3205 != r3075.1)) hc3210 (by kernel_rfl) ?_
                              refine G_seq ?_
                              refine G_region ?_
                              refine W_run 1 [(4, .bool false)] w3206 (by kernel_rfl) ?_
                              refine W_nil ?_
                              refine N_then ?_
                              refine G_ret ?_
                              refine N_then_ret ?_
                              obtain rfl := Option.some.inj hm
                              refine N_ret [.bool false] (RVs_cons (RV_tmp (by kernel_rfl)) RVs_nil) ?_
                              exact ⟨rfl, M3208.pick [] (by kernel_rfl)⟩
                            · refine G_cond_f (b := (r3205 != r3075.1)) hc3210 (by kernel_rfl) ?_
                              refine G_skip ?_
                              refine N_then ?_
                              refine G_seq ?_
                              refine G_region ?_
                              refine W_run 1 [(4, .bool true)] w3206 (by kernel_rfl) ?_
                              refine W_nil ?_
                              refine N_then ?_
                              refine G_ret ?_
                              obtain rfl := Option.some.inj hm
                              refine N_ret [.bool true] (RVs_cons (RV_tmp (by kernel_rfl)) RVs_nil) ?_
                              exact ⟨rfl, M3208.pick [] (by kernel_rfl)⟩
theorem c_s_l17Add (w : World) (x3264 : List Region) (p3266 : Option Addr) (c3267 : Nat) (h3268 : rdS encRegion w x3264 p3266 c3267) (x3269 : Region) {r : (List Region)} (hm : M.s_l17Add x3264 x3269 = some r) :
    Calls Try.prog 72 #[.slice p3266 x3264.length c3267, .agg #[.int .i64 x3269.Base, .int .i64 x3269.Size, .int .i64 x3269.Kind, .int .i64 x3269.Unit]] w fun e w' => ∃ (p3271 : Option Addr) (c3272 : Nat) (sg3273 : Seg), e = .returned (.slice p3271 r.length c3272) ∧ ownS encRegion r p3271 c3272 sg3273 ∧ Mem [] w w' [sg3273] := by
  unfold M.s_l17Add at hm
  refine C_enter Try.func72 rfl (by kernel_rfl) ?_
  have M0 := Mem.refl [] w
  refine G_seq ?_
  refine G_region ?_
  refine W_new (fun b => .pointer (some ⟨b, 0, none⟩)) (.cells ⟨[.int .i64 x3269.Base, .int .i64 x3269.Size, .int .i64 x3269.Kind, .int .i64 x3269.Unit]⟩ 59 (0, 0)) M0 rfl (by kernel_rfl) (by kernel_rfl) ?_
  intro b3275 w3276 M3277
  refine W_run 1 [(0, .slice p3266 x3264.length c3267), (3, .pointer (some ⟨b3275, 0, none⟩))] w3276 (by kernel_rfl) ?_
  refine W_nil ?_
  refine N_then ?_
  refine G_seq ?_
  refine G_region ?_
  refine W_run 1 [(0, .slice p3266 x3264.length c3267), (3, .pointer (some ⟨b3275, 0, none⟩)), (5, .int .i64 0)] w3276 (by kernel_rfl) ?_
  refine W_nil ?_
  refine N_then ?_
  refine G_seq ?_
  obtain ⟨out3326, hw3327, hmo3328⟩ := gx_bind hm
  refine G_meet (fun a w' => Mem [] w w' [[(b3275, .cells ⟨[.int .i64 x3269.Base, .int .i64 x3269.Size, .int .i64 x3269.Kind, .int .i64 x3269.Unit]⟩ 59 (0, 0))]] ∧ Sat Try.f72.ntmps [(0, .slice p3266 x3264.length c3267), (3, .pointer (some ⟨b3275, 0, none⟩)), (5, .int .i64 out3326)] a) ?_ ?_
  · refine G_block ?_
    refine G_while (σ := Int) (ρ := Int) (fun s3319 a w' => Mem [] w w' [[(b3275, .cells ⟨[.int .i64 x3269.Base, .int .i64 x3269.Size, .int .i64 x3269.Kind, .int .i64 x3269.Unit]⟩ 59 (0, 0))]] ∧ Sat Try.f72.ntmps [(0, .slice p3266 x3264.length c3267), (3, .pointer (some ⟨b3275, 0, none⟩)), (5, .int .i64 s3319)] a) hw3327 (fun a ha => ⟨M3277.pick [0] (by kernel_rfl), ha.sub (by kernel_rfl)⟩) ?_
    clear hm
    intro s3319 x3320 hm hout3321 a3322 w3323 ⟨M3324, hS3325⟩
    refine G_use hS3325 ?_
    refine G_seq ?_
    refine G_seq ?_
    obtain ⟨o3336, ho3337, hm3338⟩ := gx_bind hm
    refine G_meet (fun a w' => Mem [] w w' [[(b3275, .cells ⟨[.int .i64 x3269.Base, .int .i64 x3269.Size, .int .i64 x3269.Kind, .int .i64 x3269.Unit]⟩ 59 (0, 0))]] ∧ Sat Try.f72.ntmps [(0, .slice p3266 x3264.length c3267), (3, .pointer (some ⟨b3275, 0, none⟩)), (5, .int .i64 s3319), (19, .bool o3336)] a) ?_ ?_
    · have hm := ho3337
      refine G_quiet (by kernel_rfl) (by kernel_rfl) M3324 ?_
      refine Z_runs [.int .i64 s3319, .slice p3266 x3264.length c3267, .int .i64 (x3264.length : Int), .bool (decide (s3319 < (x3264.length : Int))), .bool (decide (s3319 < (x3264.length : Int)))] [(0, .slice p3266 x3264.length c3267), (3, .pointer (some ⟨b3275, 0, none⟩)), (5, .int .i64 s3319), (10, .bool (decide (s3319 < (x3264.length : Int))))] (fun w_ => by kernel_rfl) (by kernel_rfl) ?_
      rcases gx_bif hm with ⟨hc3339, hm⟩ | ⟨hc3339, hm⟩
      · refine Z_known 10 true (by kernel_rfl) hc3339 ?_
        refine Z_runs [.slice p3266 x3264.length c3267, .int .i64 s3319] [(0, .slice p3266 x3264.length c3267), (3, .pointer (some ⟨b3275, 0, none⟩)), (5, .int .i64 s3319), (10, .bool true), (11, .slice p3266 x3264.length c3267), (12, .int .i64 s3319)] (fun w_ => by kernel_rfl) (by kernel_rfl) ?_
        obtain ⟨y3340, hy3340, hm⟩ := gx_bind hm
        refine Z_val (elemP p3266 (s3319.toNat * 4)) (by kernel_rfl) (fun w_ M_ => (E_index (E := encRegion) _ _ _ x3264.length c3267 .i64 s3319 4 (y := y3340) rfl (by kernel_rfl) (by kernel_rfl) (by kernel_rfl) (h3268.mem0 M_) rfl hy3340)) ?_
        refine Z_val (elemP p3266 (s3319.toNat * 4 + 0)) (by kernel_rfl) (fun w_ M_ => (E_fieldE (E := encRegion) _ _ 0 (s3319.toNat * 4) 0 rfl (by kernel_rfl) (by kernel_rfl) (h3268.mem0 M_) hy3340)) ?_
        refine Z_val (.int .i64 y3340.Base) (by kernel_rfl) (fun w_ M_ => (E_loadE (E := encRegion) _ _ false 1 s3319 0 (s3319.toNat * 4 + 0) y3340 (.int .i64 y3340.Base) rfl (by kernel_rfl) (by kernel_rfl) (by kernel_rfl) (h3268.mem0 M_) hy3340 rfl)) ?_
        refine Z_runs [.pointer (some ⟨b3275, 0, none⟩)] [(0, .slice p3266 x3264.length c3267), (3, .pointer (some ⟨b3275, 0, none⟩)), (5, .int .i64 s3319), (10, .bool true), (15, .int .i64 y3340.Base), (16, .pointer (some ⟨b3275, 0, none⟩))] (fun w_ => by kernel_rfl) (by kernel_rfl) ?_
        refine Z_val (.int .i64 x3269.Base) (by kernel_rfl) (fun w_ M_ => (E_load (e := 59) (fr := (0, 0)) _ _ false 1 b3275 0 [.int .i64 x3269.Base, .int .i64 x3269.Size, .int .i64 x3269.Kind, .int .i64 x3269.Unit] (.int .i64 x3269.Base) rfl (by kernel_rfl) (by kernel_rfl) (by kernel_rfl) (M_.blk 0 (b := b3275) (o := .cells ⟨[.int .i64 x3269.Base, .int .i64 x3269.Size, .int .i64 x3269.Kind, .int .i64 x3269.Unit]⟩ 59 (0, 0)) (by kernel_rfl)))) ?_
        refine Z_runs [.bool (decide (y3340.Base < x3269.Base)), .bool (decide (y3340.Base < x3269.Base))] [(0, .slice p3266 x3264.length c3267), (3, .pointer (some ⟨b3275, 0, none⟩)), (5, .int .i64 s3319), (19, .bool (decide (y3340.Base < x3269.Base)))] (fun w_ => by kernel_rfl) (by kernel_rfl) ?_
        refine Z_end fun w3341 M3342 => ?_
        obtain rfl := Option.some.inj hm
        exact N_meet fun a ha => ⟨M3342.pick [0] (by kernel_rfl), ha.sub (by kernel_rfl)⟩
      · refine Z_known 10 false (by kernel_rfl) hc3339 ?_
        refine Z_runs [undef, undef, undef, undef, undef, undef, undef, undef, .bool false] [(0, .slice p3266 x3264.length c3267), (3, .pointer (some ⟨b3275, 0, none⟩)), (5, .int .i64 s3319), (19, .bool false)] (fun w_ => by kernel_rfl) (by kernel_rfl) ?_
        refine Z_end fun w3343 M3344 => ?_
        obtain rfl := Option.some.inj hm
        exact N_meet fun a ha => ⟨M3344.pick [0] (by kernel_rfl), ha.sub (by kernel_rfl)⟩
    · intro a3347 w3345 ⟨M3346, hS3348⟩
      refine N_use hS3348 ?_
      have hm := hm3338
      refine N_then ?_
      rcases gx_bif hm with ⟨hc3349, hm⟩ | ⟨hc3349, hm⟩
      · refine G_cond_t (b := o3336) hc3349 (by kernel_rfl) ?_
        refine G_skip ?_
        refine N_then ?_
        refine G_block ?_
        refine G_region ?_
        refine W_run 3 [(0, .slice p3266 x3264.length c3267), (3, .pointer (some ⟨b3275, 0, none⟩)), (5, .int .i64 (w64 (s3319 + 1)))] w3345 (by kernel_rfl) ?_
        refine W_nil ?_
        refine N_block ?_
        obtain rfl := Option.some.inj hm
        exact N_loop fun a ha => ⟨_, rfl, M3346.pick [0] (by kernel_rfl), ha.sub (by kernel_rfl)⟩
      · refine G_cond_f (b := o3336) hc3349 (by kernel_rfl) ?_
        refine G_exit ?_
        refine N_then_exit ?_
        refine N_then_exit ?_
        refine N_block_eq ?_
        obtain rfl := Option.some.inj hm
        obtain rfl := hout3321 _ rfl
        exact N_meet fun a ha => ⟨M3346.pick [0] (by kernel_rfl), ha.sub (by kernel_rfl)⟩
  · intro a3350 w3351 ⟨M3352, hS3353⟩
    refine N_use hS3353 ?_
    have hm := hmo3328
    refine N_then ?_
    refine G_seq ?_
    obtain ⟨ys3361, hys3361, hm⟩ := gx_bind hm
    obtain ⟨ap3363, hap3363, hm⟩ := gx_bind hm
    obtain ⟨ap3374, hap3374, hm⟩ := gx_bind hm
    obtain ⟨ys3380, hys3380, hm⟩ := gx_bind hm
    refine G_sub [(0, .slice p3266 x3264.length c3267), (3, .pointer (some ⟨b3275, 0, none⟩)), (5, .int .i64 out3326)] (by kernel_rfl) ?_
    refine G_dagL 11 [[], [], [], [1, 2], [0, 3], [], [5], [4, 6], [], [], [8, 9]] [[], [], [], [], [0], [], [], [4], [], [], []] [[], [], [], [], [], [], [], [6], [], [], []] [[], [], [], [], [], [], [], [], [], [], []] [[], [], [], [], [], [], [], [], [], [], []] [[], [], [], [], [], [], [], [], [], [], []] (fun _ => []) (fun i => ([fun f v s => ∃ (p3357 : Option Addr) (c3358 : Nat), v = (.slice p3357 ([] : List Region).length c3358 : Value) ∧ ownS encRegion ([] : List Region) p3357 c3358 s, fun f v s => v = (.slice p3266 x3264.length c3267 : Value) ∧ s = [], fun f v s => v = (.int .i64 out3326 : Value) ∧ s = [], fun f v s => v = (.slice (subP p3266 (0 : Int).toNat c3267 4) ys3361.length (c3267 - (0 : Int).toNat) : Value) ∧ s = [], fun f v s => ∃ (p3365 : Option Addr) (c3366 : Nat), v = (.slice p3365 ap3363.length c3366 : Value) ∧ ownS encRegion ap3363 p3365 c3366 s, fun f v s => v = (.agg #[.int .i64 x3269.Base, .int .i64 x3269.Size, .int .i64 x3269.Kind, .int .i64 x3269.Unit] : Value) ∧ s = [], fun f v s => ∃ (p3370 : Option Addr) (c3371 : Nat), v = (.slice p3370 [x3269].length c3371 : Value) ∧ ownS encRegion [x3269] p3370 c3371 s, fun f v s => ∃ (p3376 : Option Addr) (c3377 : Nat), v = (.slice p3376 ap3374.length c3377 : Value) ∧ ownS encRegion ap3374 p3376 c3377 s, fun f v s => v = (.slice p3266 x3264.length c3267 : Value) ∧ s = [], fun f v s => v = (.int .i64 out3326 : Value) ∧ s = [], fun f v s => v = (.slice (subP p3266 out3326.toNat c3267 4) ys3380.length (c3267 - out3326.toNat) : Value) ∧ s = []] : List ((Nat → Value) → Value → Seg → Prop)).getD i (fun _ _ _ => False)) (fun j f v => ∃ s, (fun i => ([fun f v s => ∃ (p3357 : Option Addr) (c3358 : Nat), v = (.slice p3357 ([] : List Region).length c3358 : Value) ∧ ownS encRegion ([] : List Region) p3357 c3358 s, fun f v s => v = (.slice p3266 x3264.length c3267 : Value) ∧ s = [], fun f v s => v = (.int .i64 out3326 : Value) ∧ s = [], fun f v s => v = (.slice (subP p3266 (0 : Int).toNat c3267 4) ys3361.length (c3267 - (0 : Int).toNat) : Value) ∧ s = [], fun f v s => ∃ (p3365 : Option Addr) (c3366 : Nat), v = (.slice p3365 ap3363.length c3366 : Value) ∧ ownS encRegion ap3363 p3365 c3366 s, fun f v s => v = (.agg #[.int .i64 x3269.Base, .int .i64 x3269.Size, .int .i64 x3269.Kind, .int .i64 x3269.Unit] : Value) ∧ s = [], fun f v s => ∃ (p3370 : Option Addr) (c3371 : Nat), v = (.slice p3370 [x3269].length c3371 : Value) ∧ ownS encRegion [x3269] p3370 c3371 s, fun f v s => ∃ (p3376 : Option Addr) (c3377 : Nat), v = (.slice p3376 ap3374.length c3377 : Value) ∧ ownS encRegion ap3374 p3376 c3377 s, fun f v s => v = (.slice p3266 x3264.length c3267 : Value) ∧ s = [], fun f v s => v = (.int .i64 out3326 : Value) ∧ s = [], fun f v s => v = (.slice (subP p3266 out3326.toNat c3267 4) ys3380.length (c3267 - out3326.toNat) : Value) ∧ s = []] : List ((Nat → Value) → Value → Seg → Prop)).getD i (fun _ _ _ => False)) j f v s) [] [6, 7, 10] [6, 7] (fun _ _ _ s h => ⟨s, h⟩) (by kernel_rfl) (by kernel_rfl) (M3352.preNil 11) (by kernel_rfl) (by kernel_rfl) (by kernel_rfl) (by kernel_rfl) (allOb_cons ?_ (allOb_cons ?_ (allOb_cons ?_ (allOb_cons ?_ (allOb_cons ?_ (allOb_cons ?_ (allOb_cons ?_ (allOb_cons ?_ (allOb_cons ?_ (allOb_cons ?_ (allOb_cons ?_ allOb_nil))))))))))) ?_
    · intro g3354 f3355
      intro R w3382 M3383
      refine W_lit (E := encRegion) ([] : List Region) 0 [] 59 M3383 (by kernel_rfl) (by kernel_rfl) (by kernel_rfl) (by kernel_rfl) (by kernel_rfl) ?_
      intro p3357 c3358 sg3359 w3384 ho3360 M3385
      exact W_nil (ob_end (.slice p3357 ([] : List Region).length c3358) sg3359 rfl (by kernel_rfl) ⟨p3357, c3358, rfl, ho3360⟩ (Mem.mid M3385))
    · intro g3354 f3355
      intro R w3386 M3387
      refine W_run 1 [(23, .slice p3266 x3264.length c3267)] w3386 (by kernel_rfl) ?_
      exact W_nil (ob_end (.slice p3266 x3264.length c3267) [] rfl (by kernel_rfl) ⟨by kernel_rfl, rfl⟩ M3387)
    · intro g3354 f3355
      intro R w3390 M3391
      refine W_run 1 [(24, .int .i64 out3326)] w3390 (by kernel_rfl) ?_
      exact W_nil (ob_end (.int .i64 out3326) [] rfl (by kernel_rfl) ⟨by kernel_rfl, rfl⟩ M3391)
    · intro g3354 f3355
      intro v1_ hb1_
      obtain ⟨rfl, _⟩ := hb1_
      intro v2_ hb2_
      obtain ⟨rfl, _⟩ := hb2_
      intro R w3394 M3395
      refine W_val (.slice (subP p3266 (0 : Int).toNat c3267 4) ys3361.length (c3267 - (0 : Int).toNat)) w3394 (by kernel_rfl) (E_slice (E := encRegion) _ _ _ _ x3264.length 0 out3326 rfl (by kernel_rfl) (Or.inl ⟨rfl, rfl⟩) (Or.inr ⟨_, rfl, by kernel_rfl⟩) (by kernel_rfl) (h3268.mem0 M3395) rfl hys3361) ?_
      exact W_nil (ob_end (.slice (subP p3266 (0 : Int).toNat c3267 4) ys3361.length (c3267 - (0 : Int).toNat)) [] rfl (by kernel_rfl) ⟨by kernel_rfl, rfl⟩ M3395)
    · intro g3354 f3355
      intro v0_ hb0_
      obtain ⟨p3357, c3358, rfl, ho3360⟩ := hb0_
      intro v3_ hb3_
      obtain ⟨rfl, _⟩ := hb3_
      intro R w3398 M3399
      refine W_append (E := encRegion) _ _ _ 32 [.int .i64 0, .int .i64 0, .int .i64 0, .int .i64 0] 2 (c3267 - (0 : Int).toNat) M3399 ho3360 (by kernel_rfl) (by kernel_rfl) (by kernel_rfl) rfl (by kernel_rfl) (by kernel_rfl) (by kernel_rfl) (by kernel_rfl) (by kernel_rfl) (by kernel_rfl) ((h3268.mem0 M3399).sliceM hys3361) hap3363 ?_
      intro p3365 c3366 sg3367 w3400 ho3368 M3401
      exact W_nil (ob_end (.slice p3365 ap3363.length c3366) sg3367 rfl (by kernel_rfl) ⟨p3365, c3366, rfl, ho3368⟩ (Mem.takeOver M3401))
    · intro g3354 f3355
      intro R w3402 M3403
      refine W_val (.agg #[.int .i64 x3269.Base, .int .i64 x3269.Size, .int .i64 x3269.Kind, .int .i64 x3269.Unit]) w3402 (by kernel_rfl) (E_load (e := 59) (fr := (0, 0)) _ _ true 4 b3275 0 [.int .i64 x3269.Base, .int .i64 x3269.Size, .int .i64 x3269.Kind, .int .i64 x3269.Unit] (.agg #[.int .i64 x3269.Base, .int .i64 x3269.Size, .int .i64 x3269.Kind, .int .i64 x3269.Unit]) rfl (by kernel_rfl) (by kernel_rfl) (by kernel_rfl) (M3403.blk 0 (b := b3275) (o := .cells ⟨[.int .i64 x3269.Base, .int .i64 x3269.Size, .int .i64 x3269.Kind, .int .i64 x3269.Unit]⟩ 59 (0, 0)) (by kernel_rfl))) ?_
      exact W_nil (ob_end (.agg #[.int .i64 x3269.Base, .int .i64 x3269.Size, .int .i64 x3269.Kind, .int .i64 x3269.Unit]) [] rfl (by kernel_rfl) ⟨by kernel_rfl, rfl⟩ M3403)
    · intro g3354 f3355
      intro v5_ hb5_
      obtain ⟨rfl, _⟩ := hb5_
      intro R w3406 M3407
      refine W_lit (E := encRegion) [x3269] 1 [.int .i64 x3269.Base, .int .i64 x3269.Size, .int .i64 x3269.Kind, .int .i64 x3269.Unit] 59 M3407 (by kernel_rfl) (by kernel_rfl) (by kernel_rfl) (by kernel_rfl) (by kernel_rfl) ?_
      intro p3370 c3371 sg3372 w3408 ho3373 M3409
      exact W_nil (ob_end (.slice p3370 [x3269].length c3371) sg3372 rfl (by kernel_rfl) ⟨p3370, c3371, rfl, ho3373⟩ (Mem.mid M3409))
    · intro g3354 f3355
      intro v4_ hb4_
      obtain ⟨p3365, c3366, rfl, ho3368⟩ := hb4_
      intro v6_ hb6_
      obtain ⟨p3370, c3371, rfl, ho3373⟩ := hb6_
      intro R w3410 M3411
      refine W_append (E := encRegion) _ _ _ 32 [.int .i64 0, .int .i64 0, .int .i64 0, .int .i64 0] 2 c3371 M3411 ho3368 (by kernel_rfl) (by kernel_rfl) (by kernel_rfl) rfl (by kernel_rfl) (by kernel_rfl) (by kernel_rfl) (by kernel_rfl) (by kernel_rfl) (by kernel_rfl) (ho3373.rd M3411 3 (by kernel_rfl)) hap3374 ?_
      intro p3376 c3377 sg3378 w3412 ho3379 M3413
      exact W_nil (ob_end (.slice p3376 ap3374.length c3377) sg3378 rfl (by kernel_rfl) ⟨p3376, c3377, rfl, ho3379⟩ (Mem.takeOver M3413))
    · intro g3354 f3355
      intro R w3414 M3415
      refine W_run 1 [(30, .slice p3266 x3264.length c3267)] w3414 (by kernel_rfl) ?_
      exact W_nil (ob_end (.slice p3266 x3264.length c3267) [] rfl (by kernel_rfl) ⟨by kernel_rfl, rfl⟩ M3415)
    · intro g3354 f3355
      intro R w3418 M3419
      refine W_run 1 [(31, .int .i64 out3326)] w3418 (by kernel_rfl) ?_
      exact W_nil (ob_end (.int .i64 out3326) [] rfl (by kernel_rfl) ⟨by kernel_rfl, rfl⟩ M3419)
    · intro g3354 f3355
      intro v8_ hb8_
      obtain ⟨rfl, _⟩ := hb8_
      intro v9_ hb9_
      obtain ⟨rfl, _⟩ := hb9_
      intro R w3422 M3423
      refine W_val (.slice (subP p3266 out3326.toNat c3267 4) ys3380.length (c3267 - out3326.toNat)) w3422 (by kernel_rfl) (E_slice (E := encRegion) _ _ _ _ x3264.length out3326 (x3264.length : Int) rfl (by kernel_rfl) (Or.inr ⟨_, rfl, by kernel_rfl⟩) (Or.inl ⟨rfl, rfl⟩) (by kernel_rfl) (h3268.mem0 M3423) rfl hys3380) ?_
      exact W_nil (ob_end (.slice (subP p3266 out3326.toNat c3267 4) ys3380.length (c3267 - out3326.toNat)) [] rfl (by kernel_rfl) ⟨by kernel_rfl, rfl⟩ M3423)
    · intro g3354 f3355
      intro v6_ hb6_
      obtain ⟨p3370, c3371, rfl, ho3373⟩ := hb6_
      intro v7_ hb7_
      obtain ⟨p3376, c3377, rfl, ho3379⟩ := hb7_
      intro v10_ hb10_
      obtain ⟨rfl, _⟩ := hb10_
      intro w3426 M3427
      have M3428 : Mem [] w w3426 [[(b3275, .cells ⟨[.int .i64 x3269.Base, .int .i64 x3269.Size, .int .i64 x3269.Kind, .int .i64 x3269.Unit]⟩ 59 (0, 0))], (g3354 6), (g3354 7)] := M3427
      obtain ⟨ap3429, hap3429, hm⟩ := gx_bind hm
      refine W_append (E := encRegion) _ _ _ 32 [.int .i64 0, .int .i64 0, .int .i64 0, .int .i64 0] 2 (c3267 - out3326.toNat) M3428 ho3379 (by kernel_rfl) (by kernel_rfl) (by kernel_rfl) rfl (by kernel_rfl) (by kernel_rfl) (by kernel_rfl) (by kernel_rfl) (by kernel_rfl) (by kernel_rfl) ((h3268.mem0 M3428).sliceM hys3380) hap3429 ?_
      intro p3430 c3431 sg3432 w3433 ho3434 M3435
      refine W_run 1 [(4, .slice p3430 ap3429.length c3431)] w3433 (by kernel_rfl) ?_
      refine W_nil ?_
      refine N_then ?_
      refine G_ret ?_
      obtain rfl := Option.some.inj hm
      refine N_ret [.slice p3430 ap3429.length c3431] (RVs_cons (RV_tmp (by kernel_rfl)) RVs_nil) ?_
      exact ⟨p3430, c3431, sg3432, rfl, ho3434, M3435.pick [2] (by kernel_rfl)⟩
theorem c_s_PlaceRegion (w : World) (x3231 : List Region) (p3233 : Option Addr) (c3234 : Nat) (h3235 : rdS encRegion w x3231 p3233 c3234) (x3236 : Int) {r : Int × Bool} (hm : M.s_PlaceRegion x3231 x3236 = some r) :
    Calls Try.prog 32 #[.slice p3233 x3231.length c3234, .int .i64 x3236] w fun e w' => e = .returned (.tuple #[.int .i64 r.1, .bool r.2]) ∧ Mem [] w w' [] := by
  unfold M.s_PlaceRegion at hm
  refine C_enter Try.func32 rfl (by kernel_rfl) ?_
  have M0 := Mem.refl [] w
  refine G_seq ?_
  refine G_region ?_
  refine W_run 2 [(0, .slice p3233 x3231.length c3234), (1, .int .i64 x3236)] w (by kernel_rfl) ?_
  refine W_nil ?_
  refine N_then ?_
  refine G_seq ?_
  refine G_seq ?_
  obtain ⟨o3246, ho3247, hm3248⟩ := gx_bind hm
  refine G_meet (fun a w' => Mem [] w w' [] ∧ Sat Try.f32.ntmps [(0, .slice p3233 x3231.length c3234), (1, .int .i64 x3236), (14, .bool o3246)] a) ?_ ?_
  · have hm := ho3247
    refine G_region ?_
    refine W_run 1 [(0, .slice p3233 x3231.length c3234), (1, .int .i64 x3236), (7, .slice p3233 x3231.length c3234)] w (by kernel_rfl) ?_
    obtain ⟨r3249, hr3249, hm⟩ := gx_bind hm
    refine W_call 60 #[.slice p3233 x3231.length c3234] (by kernel_rfl) (by kernel_rfl) ?_
    refine (c_s_l17Good w x3231 p3233 c3234 (h3235.mem0 M0) hr3249).mono ?_
    rintro e_ w3250 ⟨rfl, K3251⟩
    have M3252 := M0.call0 K3251
    refine ⟨_, rfl, ?_⟩
    refine W_run 2 [(0, .slice p3233 x3231.length c3234), (1, .int .i64 x3236), (10, .bool (!r3249))] w3250 (by kernel_rfl) ?_
    rcases gx_bif hm with ⟨hc3253, hm⟩ | ⟨hc3253, hm⟩
    · refine W_known 10 true (by kernel_rfl) hc3253 ?_
      refine W_run 4 [(0, .slice p3233 x3231.length c3234), (1, .int .i64 x3236), (14, .bool true)] w3250 (by kernel_rfl) ?_
      refine W_nil ?_
      obtain rfl := Option.some.inj hm
      exact N_meet fun a ha => ⟨M3252.pick [] (by kernel_rfl), ha.sub (by kernel_rfl)⟩
    · refine W_known 10 false (by kernel_rfl) hc3253 ?_
      refine W_run 1 [(0, .slice p3233 x3231.length c3234), (1, .int .i64 x3236), (10, .bool false), (11, .int .i64 x3236)] w3250 (by kernel_rfl) ?_
      obtain ⟨r3254, hr3254, hm⟩ := gx_bind hm
      refine W_call 71 #[.int .i64 x3236] (by kernel_rfl) (by kernel_rfl) ?_
      refine (c_s_l17Size w3250 x3236 hr3254).mono ?_
      rintro e_ w3255 ⟨rfl, K3256⟩
      have M3257 := M3252.call0 K3256
      refine ⟨_, rfl, ?_⟩
      refine W_run 2 [(0, .slice p3233 x3231.length c3234), (1, .int .i64 x3236), (14, .bool (!r3254))] w3255 (by kernel_rfl) ?_
      refine W_nil ?_
      obtain rfl := Option.some.inj hm
      exact N_meet fun a ha => ⟨M3257.pick [] (by kernel_rfl), ha.sub (by kernel_rfl)⟩
  · intro a3260 w3258 ⟨M3259, hS3261⟩
    refine N_use hS3261 ?_
    have hm := hm3248
    refine N_then ?_
    rcases gx_bif hm with ⟨hc3262, hm⟩ | ⟨hc3262, hm⟩
    · refine G_cond_t (b := o3246) hc3262 (by kernel_rfl) ?_
      refine G_seq ?_
      refine G_region ?_
      refine W_run 2 [(4, .int .i64 0), (5, .bool false)] w3258 (by kernel_rfl) ?_
      refine W_nil ?_
      refine N_then ?_
      refine G_ret ?_
      refine N_then_ret ?_
      obtain rfl := Option.some.inj hm
      refine N_ret [.int .i64 0, .bool false] (RVs_cons (RV_tmp (by kernel_rfl)) (RVs_cons (RV_tmp (by kernel_rfl)) RVs_nil)) ?_
      exact ⟨rfl, M3259.pick [] (by kernel_rfl)⟩
    · refine G_cond_f (b := o3246) hc3262 (by kernel_rfl) ?_
      refine G_skip ?_
      refine N_then ?_
      refine G_seq ?_
      refine G_seq ?_
      refine G_region ?_
      refine W_run 1 [(0, .slice p3233 x3231.length c3234), (1, .int .i64 x3236), (6, .int .i64 0)] w3258 (by kernel_rfl) ?_
      refine W_nil ?_
      refine N_then ?_
      obtain ⟨out3473, hw3474, hmo3475⟩ := gx_bind hm
      refine G_meet (fun a w' => ∃ (o3476 : Unit), out3473 = .inl o3476 ∧ Mem [] w w' [] ∧ Sat Try.f32.ntmps [] a) ?_ ?_
      · refine G_block ?_
        refine G_while (σ := Int) (ρ := (Unit) ⊕ (Int × Bool)) (fun s3466 a w' => Mem [] w w' [] ∧ Sat Try.f32.ntmps [(0, .slice p3233 x3231.length c3234), (1, .int .i64 x3236), (6, .int .i64 s3466)] a) hw3474 (fun a ha => ⟨M3259.pick [] (by kernel_rfl), ha.sub (by kernel_rfl)⟩) ?_
        clear hm
        intro s3466 x3467 hm hout3468 a3469 w3470 ⟨M3471, hS3472⟩
        refine G_use hS3472 ?_
        refine G_seq ?_
        refine G_seq ?_
        refine G_region ?_
        refine W_run 2 [(0, .slice p3233 x3231.length c3234), (1, .int .i64 x3236), (6, .int .i64 s3466), (16, .bool (decide (s3466 < 65536)))] w3470 (by kernel_rfl) ?_
        refine W_nil ?_
        refine N_then ?_
        rcases gx_bif hm with ⟨hc3477, hm⟩ | ⟨hc3477, hm⟩
        · refine G_cond_t (b := (decide (s3466 < 65536))) hc3477 (by kernel_rfl) ?_
          refine G_skip ?_
          refine N_then ?_
          refine G_seq ?_
          refine G_block ?_
          refine G_seq ?_
          refine G_region ?_
          refine W_run 4 [(0, .slice p3233 x3231.length c3234), (1, .int .i64 x3236), (6, .int .i64 s3466), (20, .slice p3233 x3231.length c3234), (23, .agg #[.int .i64 s3466, .int .i64 x3236, .int .i64 0, .int .i64 0])] w3470 (by kernel_rfl) ?_
          obtain ⟨r3478, hr3478, hm⟩ := gx_bind hm
          refine W_call 72 #[.slice p3233 x3231.length c3234, .agg #[.int .i64 s3466, .int .i64 x3236, .int .i64 0, .int .i64 0]] (by kernel_rfl) (by kernel_rfl) ?_
          refine (c_s_l17Add w3470 x3231 p3233 c3234 (h3235.mem0 M3471) (⟨s3466, x3236, 0, 0⟩ : Region) hr3478).mono ?_
          rintro e_ w3484 ⟨p3480, c3481, sg3482, rfl, ho3483, K3485⟩
          have M3486 := M3471.call K3485
          refine ⟨_, rfl, ?_⟩
          obtain ⟨r3487, hr3487, hm⟩ := gx_bind hm
          refine W_call 60 #[.slice p3480 r3478.length c3481] (by kernel_rfl) (by kernel_rfl) ?_
          refine (c_s_l17Good w3484 r3478 p3480 c3481 (ho3483.rd M3486 0 (by kernel_rfl)) hr3487).mono ?_
          rintro e_ w3488 ⟨rfl, K3489⟩
          have M3490 := M3486.call0 K3489
          refine ⟨_, rfl, ?_⟩
          refine W_nil ?_
          refine N_then ?_
          rcases gx_bif hm with ⟨hc3491, hm⟩ | ⟨hc3491, hm⟩
          · refine G_cond_t (b := r3487) hc3491 (by kernel_rfl) ?_
            refine G_seq ?_
            refine G_region ?_
            refine W_run 3 [(4, .int .i64 s3466), (5, .bool true)] w3488 (by kernel_rfl) ?_
            refine W_nil ?_
            refine N_then ?_
            refine G_ret ?_
            refine N_block_ret ?_
            refine N_then_ret ?_
            refine N_then_ret ?_
            obtain rfl := Option.some.inj hm
            obtain rfl := hout3468 _ rfl
            have hm := hmo3475; simp only [Sum.elim_inr] at hm
            refine N_block_ret ?_
            refine N_meet_ret ?_
            refine N_then_ret ?_
            obtain rfl := Option.some.inj hm
            refine N_ret [.int .i64 s3466, .bool true] (RVs_cons (RV_tmp (by kernel_rfl)) (RVs_cons (RV_tmp (by kernel_rfl)) RVs_nil)) ?_
            exact ⟨rfl, M3490.pick [] (by kernel_rfl)⟩
          · refine G_cond_f (b := r3487) hc3491 (by kernel_rfl) ?_
            refine G_skip ?_
            refine N_block ?_
            refine N_then ?_
            refine G_region ?_
            refine W_run 4 [(0, .slice p3233 x3231.length c3234), (1, .int .i64 x3236), (6, .int .i64 (w64 (s3466 + x3236)))] w3488 (by kernel_rfl) ?_
            refine W_nil ?_
            obtain rfl := Option.some.inj hm
            exact N_loop fun a ha => ⟨_, rfl, M3490.pick [] (by kernel_rfl), ha.sub (by kernel_rfl)⟩
        · refine G_cond_f (b := (decide (s3466 < 65536))) hc3477 (by kernel_rfl) ?_
          refine G_exit ?_
          refine N_then_exit ?_
          refine N_then_exit ?_
          refine N_block_eq ?_
          obtain rfl := Option.some.inj hm
          obtain rfl := hout3468 _ rfl
          exact N_meet fun a ha => ⟨_, rfl, M3471.pick [] (by kernel_rfl), ha.sub (by kernel_rfl)⟩
      · intro a3492 w3493 ⟨o3476, hout_, M3494, hS3495⟩
        refine N_use hS3495 ?_
        subst hout_
        have hm := hmo3475; simp only [Sum.elim_inl] at hm
        refine N_then ?_
        refine G_seq ?_
        refine G_region ?_
        refine W_run 2 [(4, .int .i64 0), (5, .bool false)] w3493 (by kernel_rfl) ?_
        refine W_nil ?_
        refine N_then ?_
        refine G_ret ?_
        obtain rfl := Option.some.inj hm
        refine N_ret [.int .i64 0, .bool false] (RVs_cons (RV_tmp (by kernel_rfl)) (RVs_cons (RV_tmp (by kernel_rfl)) RVs_nil)) ?_
        exact ⟨rfl, M3494.pick [] (by kernel_rfl)⟩
theorem c_slices_Clone_75 (w : World) (x3544 : List Region) (p3546 : Option Addr) (c3547 : Nat) (h3548 : rdS encRegion w x3544 p3546 c3547) {r : (List Region)} (hm : M.slices_Clone_75 x3544 = some r) :
    Calls Try.prog 75 #[.slice p3546 x3544.length c3547] w fun e w' => ∃ (p3550 : Option Addr) (c3551 : Nat) (sg3552 : Seg), e = .returned (.slice p3550 r.length c3551) ∧ ownS encRegion r p3550 c3551 sg3552 ∧ Mem [] w w' [sg3552] := by
  unfold M.slices_Clone_75 at hm
  cases p3546 with
  | none =>
    have hx : x3544 = [] := by rcases h3548.2 with hh | ⟨_, _, _, _, _, hp, _⟩; exact hh; cases hp
    subst hx
    have hm : some ([] : List Region) = some r := by simpa [gxApp] using hm
    refine C_enter Try.func75 rfl (by kernel_rfl) ?_
    have M0 := Mem.refl [] w
    refine G_seq ?_
    refine G_region ?_
    refine W_run 1 [(0, .slice none ([] : List Region).length c3547)] w (by kernel_rfl) ?_
    refine W_nil ?_
    refine N_then ?_
    refine G_seq ?_
    refine G_seq ?_
    refine G_region ?_
    refine W_run 2 [(0, .slice none ([] : List Region).length c3547), (4, .bool true)] w (by kernel_rfl) ?_
    refine W_nil ?_
    refine N_then ?_
    refine G_cond_t rfl (by kernel_rfl) ?_
    refine G_seq ?_
    refine G_region ?_
    refine W_run 1 [(2, .slice none 0 0)] w (by kernel_rfl) ?_
    refine W_nil ?_
    refine N_then ?_
    refine G_ret ?_
    refine N_then_ret ?_
    obtain rfl := Option.some.inj hm
    refine N_ret [.slice none 0 0] (RVs_cons (RV_tmp (by kernel_rfl)) RVs_nil) ?_
    exact ⟨none, 0, [], rfl, ownS_nil, M0.pick [100000] (by kernel_rfl)⟩
  | some a_ =>
    refine C_enter Try.func75 rfl (by kernel_rfl) ?_
    have M0 := Mem.refl [] w
    refine G_seq ?_
    refine G_region ?_
    refine W_run 1 [(0, .slice (some a_) x3544.length c3547)] w (by kernel_rfl) ?_
    refine W_nil ?_
    refine N_then ?_
    refine G_seq ?_
    refine G_seq ?_
    refine G_region ?_
    refine W_run 2 [(0, .slice (some a_) x3544.length c3547), (4, .bool false)] w (by kernel_rfl) ?_
    refine W_nil ?_
    refine N_then ?_
    refine G_cond_f rfl (by kernel_rfl) ?_
    refine G_skip ?_
    refine N_then ?_
    refine G_seq ?_
    refine G_region ?_
    refine W_lit (E := encRegion) ([] : List Region) 0 [] 59 M0 (by kernel_rfl) (by kernel_rfl) (by kernel_rfl) (by kernel_rfl) (by kernel_rfl) ?_
    intro p3558 c3559 sg3560 w3561 ho3562 M3563
    refine W_run 1 [(5, .slice p3558 ([] : List Region).length c3559), (6, .slice (some a_) x3544.length c3547)] w3561 (by kernel_rfl) ?_
    obtain ⟨ap3565, hap3565, hm⟩ := gx_bind hm
    refine W_append (E := encRegion) _ _ _ 32 [.int .i64 0, .int .i64 0, .int .i64 0, .int .i64 0] 0 c3547 M3563 ho3562 (by kernel_rfl) (by kernel_rfl) (by kernel_rfl) rfl (by kernel_rfl) (by kernel_rfl) (by kernel_rfl) (by kernel_rfl) (by kernel_rfl) (by kernel_rfl) (h3548.mem0 M3563) hap3565 ?_
    intro p3566 c3567 sg3568 w3569 ho3570 M3571
    refine W_run 1 [(2, .slice p3566 ap3565.length c3567)] w3569 (by kernel_rfl) ?_
    refine W_nil ?_
    refine N_then ?_
    refine G_ret ?_
    obtain rfl := Option.some.inj hm
    refine N_ret [.slice p3566 ap3565.length c3567] (RVs_cons (RV_tmp (by kernel_rfl)) RVs_nil) ?_
    exact ⟨p3566, c3567, sg3568, rfl, ho3570, M3571.pick [0] (by kernel_rfl)⟩
theorem c_cmp_isNaN_95 (w : World) (x3657 : Int) {r : Bool} (hm : M.cmp_isNaN_95 x3657 = some r) :
    Calls Try.prog 95 #[.int .i64 x3657] w fun e w' => e = .returned (.bool r) ∧ Mem [] w w' [] := by
  unfold M.cmp_isNaN_95 at hm
  refine C_enter Try.func95 rfl (by kernel_rfl) ?_
  have M0 := Mem.refl [] w
  refine G_seq ?_
  refine G_region ?_
  refine W_run 1 [(0, .int .i64 x3657)] w (by kernel_rfl) ?_
  refine W_nil ?_
  refine N_then ?_
  refine G_seq ?_
  refine G_region ?_
  refine W_run 4 [(2, .bool (x3657 != x3657))] w (by kernel_rfl) ?_
  refine W_nil ?_
  refine N_then ?_
  refine G_ret ?_
  obtain rfl := Option.some.inj hm
  refine N_ret [.bool (x3657 != x3657)] (RVs_cons (RV_tmp (by kernel_rfl)) RVs_nil) ?_
  exact ⟨rfl, M0.pick [] (by kernel_rfl)⟩
theorem c_cmp_Compare_91 (w : World) (x3655 : Int) (x3656 : Int) {r : Int} (hm : M.cmp_Compare_91 x3655 x3656 = some r) :
    Calls Try.prog 91 #[.int .i64 x3655, .int .i64 x3656] w fun e w' => e = .returned (.int .i64 r) ∧ Mem [] w w' [] := by
  unfold M.cmp_Compare_91 at hm
  refine C_enter Try.func91 rfl (by kernel_rfl) ?_
  have M0 := Mem.refl [] w
  refine G_seq ?_
  refine G_region ?_
  refine W_run 1 [(0, .int .i64 x3655), (1, .int .i64 x3656)] w (by kernel_rfl) ?_
  refine W_nil ?_
  refine N_then ?_
  refine G_seq ?_
  refine G_region ?_
  refine W_run 1 [(0, .int .i64 x3655), (1, .int .i64 x3656), (7, .int .i64 x3655)] w (by kernel_rfl) ?_
  obtain ⟨r3658, hr3658, hm⟩ := gx_bind hm
  refine W_call 95 #[.int .i64 x3655] (by kernel_rfl) (by kernel_rfl) ?_
  refine (c_cmp_isNaN_95 w x3655 hr3658).mono ?_
  rintro e_ w3659 ⟨rfl, K3660⟩
  have M3661 := M0.call0 K3660
  refine ⟨_, rfl, ?_⟩
  refine W_run 1 [(0, .int .i64 x3655), (1, .int .i64 x3656), (5, .bool r3658)] w3659 (by kernel_rfl) ?_
  refine W_nil ?_
  refine N_then ?_
  refine G_seq ?_
  refine G_region ?_
  refine W_run 1 [(0, .int .i64 x3655), (1, .int .i64 x3656), (5, .bool r3658), (9, .int .i64 x3656)] w3659 (by kernel_rfl) ?_
  obtain ⟨r3662, hr3662, hm⟩ := gx_bind hm
  refine W_call 95 #[.int .i64 x3656] (by kernel_rfl) (by kernel_rfl) ?_
  refine (c_cmp_isNaN_95 w3659 x3656 hr3662).mono ?_
  rintro e_ w3663 ⟨rfl, K3664⟩
  have M3665 := M3661.call0 K3664
  refine ⟨_, rfl, ?_⟩
  refine W_run 1 [(0, .int .i64 x3655), (1, .int .i64 x3656), (5, .bool r3658), (6, .bool r3662)] w3663 (by kernel_rfl) ?_
  refine W_nil ?_
  refine N_then ?_
  refine G_seq ?_
  refine G_seq ?_
  refine G_region ?_
  refine W_run 1 [(0, .int .i64 x3655), (1, .int .i64 x3656), (6, .bool r3662), (11, .bool r3658)] w3663 (by kernel_rfl) ?_
  refine W_nil ?_
  refine N_then ?_
  rcases gx_bif hm with ⟨hc3666, hm⟩ | ⟨hc3666, hm⟩
  · refine G_cond_t (b := r3658) hc3666 (by kernel_rfl) ?_
    refine G_seq ?_
    refine G_seq ?_
    refine G_region ?_
    refine W_run 1 [(12, .bool r3662)] w3663 (by kernel_rfl) ?_
    refine W_nil ?_
    refine N_then ?_
    rcases gx_bif hm with ⟨hc3667, hm⟩ | ⟨hc3667, hm⟩
    · refine G_cond_t (b := r3662) hc3667 (by kernel_rfl) ?_
      refine G_seq ?_
      refine G_region ?_
      refine W_run 1 [(4, .int .i64 0)] w3663 (by kernel_rfl) ?_
      refine W_nil ?_
      refine N_then ?_
      refine G_ret ?_
      refine N_then_ret ?_
      refine N_then_ret ?_
      obtain rfl := Option.some.inj hm
      refine N_ret [.int .i64 0] (RVs_cons (RV_tmp (by kernel_rfl)) RVs_nil) ?_
      exact ⟨rfl, M3665.pick [] (by kernel_rfl)⟩
    · refine G_cond_f (b := r3662) hc3667 (by kernel_rfl) ?_
      refine G_skip ?_
      refine N_then ?_
      refine G_seq ?_
      refine G_region ?_
      refine W_run 1 [(4, .int .i64 (-1))] w3663 (by kernel_rfl) ?_
      refine W_nil ?_
      refine N_then ?_
      refine G_ret ?_
      refine N_then_ret ?_
      obtain rfl := Option.some.inj hm
      refine N_ret [.int .i64 (-1)] (RVs_cons (RV_tmp (by kernel_rfl)) RVs_nil) ?_
      exact ⟨rfl, M3665.pick [] (by kernel_rfl)⟩
  · refine G_cond_f (b := r3658) hc3666 (by kernel_rfl) ?_
    refine G_skip ?_
    refine N_then ?_
    refine G_seq ?_
    refine G_seq ?_
    refine G_region ?_
    refine W_run 1 [(0, .int .i64 x3655), (1, .int .i64 x3656), (13, .bool r3662)] w3663 (by kernel_rfl) ?_
    refine W_nil ?_
    refine N_then ?_
    rcases gx_bif hm with ⟨hc3668, hm⟩ | ⟨hc3668, hm⟩
    · refine G_cond_t (b := r3662) hc3668 (by kernel_rfl) ?_
      refine G_seq ?_
      refine G_region ?_
      refine W_run 1 [(4, .int .i64 1)] w3663 (by kernel_rfl) ?_
      refine W_nil ?_
      refine N_then ?_
      refine G_ret ?_
      refine N_then_ret ?_
      obtain rfl := Option.some.inj hm
      refine N_ret [.int .i64 1] (RVs_cons (RV_tmp (by kernel_rfl)) RVs_nil) ?_
      exact ⟨rfl, M3665.pick [] (by kernel_rfl)⟩
    · refine G_cond_f (b := r3662) hc3668 (by kernel_rfl) ?_
      refine G_skip ?_
      refine N_then ?_
      refine G_seq ?_
      refine G_seq ?_
      refine G_region ?_
      refine W_run 3 [(0, .int .i64 x3655), (1, .int .i64 x3656), (16, .bool (decide (x3655 < x3656)))] w3663 (by kernel_rfl) ?_
      refine W_nil ?_
      refine N_then ?_
      rcases gx_bif hm with ⟨hc3669, hm⟩ | ⟨hc3669, hm⟩
      · refine G_cond_t (b := (decide (x3655 < x3656))) hc3669 (by kernel_rfl) ?_
        refine G_seq ?_
        refine G_region ?_
        refine W_run 1 [(4, .int .i64 (-1))] w3663 (by kernel_rfl) ?_
        refine W_nil ?_
        refine N_then ?_
        refine G_ret ?_
        refine N_then_ret ?_
        obtain rfl := Option.some.inj hm
        refine N_ret [.int .i64 (-1)] (RVs_cons (RV_tmp (by kernel_rfl)) RVs_nil) ?_
        exact ⟨rfl, M3665.pick [] (by kernel_rfl)⟩
      · refine G_cond_f (b := (decide (x3655 < x3656))) hc3669 (by kernel_rfl) ?_
        refine G_skip ?_
        refine N_then ?_
        refine G_seq ?_
        refine G_seq ?_
        refine G_region ?_
        refine W_run 3 [(19, .bool (decide (x3655 > x3656)))] w3663 (by kernel_rfl) ?_
        refine W_nil ?_
        refine N_then ?_
        rcases gx_bif hm with ⟨hc3670, hm⟩ | ⟨hc3670, hm⟩
        · refine G_cond_t (b := (decide (x3655 > x3656))) hc3670 (by kernel_rfl) ?_
          refine G_seq ?_
          refine G_region ?_
          refine W_run 1 [(4, .int .i64 1)] w3663 (by kernel_rfl) ?_
          refine W_nil ?_
          refine N_then ?_
          refine G_ret ?_
          refine N_then_ret ?_
          obtain rfl := Option.some.inj hm
          refine N_ret [.int .i64 1] (RVs_cons (RV_tmp (by kernel_rfl)) RVs_nil) ?_
          exact ⟨rfl, M3665.pick [] (by kernel_rfl)⟩
        · refine G_cond_f (b := (decide (x3655 > x3656))) hc3670 (by kernel_rfl) ?_
          refine G_skip ?_
          refine N_then ?_
          refine G_seq ?_
          refine G_region ?_
          refine W_run 1 [(4, .int .i64 0)] w3663 (by kernel_rfl) ?_
          refine W_nil ?_
          refine N_then ?_
          refine G_ret ?_
          obtain rfl := Option.some.inj hm
          refine N_ret [.int .i64 0] (RVs_cons (RV_tmp (by kernel_rfl)) RVs_nil) ?_
          exact ⟨rfl, M3665.pick [] (by kernel_rfl)⟩
theorem c_i_asMap_1 (w : World) (x3645 : Region) (x3646 : Region) {r : Int} (hm : M.i_asMap_1 x3645 x3646 = some r) :
    Calls Try.prog 90 #[.agg #[.int .i64 x3645.Base, .int .i64 x3645.Size, .int .i64 x3645.Kind, .int .i64 x3645.Unit], .agg #[.int .i64 x3646.Base, .int .i64 x3646.Size, .int .i64 x3646.Kind, .int .i64 x3646.Unit]] w fun e w' => e = .returned (.int .i64 r) ∧ Mem [] w w' [] := by
  unfold M.i_asMap_1 at hm
  refine C_enter Try.func90 rfl (by kernel_rfl) ?_
  have M0 := Mem.refl [] w
  refine G_seq ?_
  refine G_region ?_
  refine W_new (fun b => .pointer (some ⟨b, 0, none⟩)) (.cells ⟨[.int .i64 x3645.Base, .int .i64 x3645.Size, .int .i64 x3645.Kind, .int .i64 x3645.Unit]⟩ 59 (0, 0)) M0 rfl (by kernel_rfl) (by kernel_rfl) ?_
  intro b3648 w3649 M3650
  refine W_new (fun b => .pointer (some ⟨b, 0, none⟩)) (.cells ⟨[.int .i64 x3646.Base, .int .i64 x3646.Size, .int .i64 x3646.Kind, .int .i64 x3646.Unit]⟩ 59 (0, 0)) M3650 rfl (by kernel_rfl) (by kernel_rfl) ?_
  intro b3652 w3653 M3654
  refine W_run 1 [(2, .pointer (some ⟨b3648, 0, none⟩)), (3, .pointer (some ⟨b3652, 0, none⟩))] w3653 (by kernel_rfl) ?_
  refine W_nil ?_
  refine N_then ?_
  refine G_seq ?_
  refine G_region ?_
  refine W_run 1 [(3, .pointer (some ⟨b3652, 0, none⟩)), (5, .pointer (some ⟨b3648, 0, none⟩))] w3653 (by kernel_rfl) ?_
  refine W_val (.int .i64 x3645.Base) w3653 (by kernel_rfl) (E_load (e := 59) (fr := (0, 0)) _ _ false 1 b3648 0 [.int .i64 x3645.Base, .int .i64 x3645.Size, .int .i64 x3645.Kind, .int .i64 x3645.Unit] (.int .i64 x3645.Base) rfl (by kernel_rfl) (by kernel_rfl) (by kernel_rfl) (M3654.blk 0 (b := b3648) (o := .cells ⟨[.int .i64 x3645.Base, .int .i64 x3645.Size, .int .i64 x3645.Kind, .int .i64 x3645.Unit]⟩ 59 (0, 0)) (by kernel_rfl))) ?_
  refine W_run 1 [(6, .int .i64 x3645.Base), (7, .pointer (some ⟨b3652, 0, none⟩))] w3653 (by kernel_rfl) ?_
  refine W_val (.int .i64 x3646.Base) w3653 (by kernel_rfl) (E_load (e := 59) (fr := (0, 0)) _ _ false 1 b3652 0 [.int .i64 x3646.Base, .int .i64 x3646.Size, .int .i64 x3646.Kind, .int .i64 x3646.Unit] (.int .i64 x3646.Base) rfl (by kernel_rfl) (by kernel_rfl) (by kernel_rfl) (M3654.blk 1 (b := b3652) (o := .cells ⟨[.int .i64 x3646.Base, .int .i64 x3646.Size, .int .i64 x3646.Kind, .int .i64 x3646.Unit]⟩ 59 (0, 0)) (by kernel_rfl))) ?_
  obtain ⟨r3671, hr3671, hm⟩ := gx_bind hm
  refine W_call 91 #[.int .i64 x3645.Base, .int .i64 x3646.Base] (by kernel_rfl) (by kernel_rfl) ?_
  refine (c_cmp_Compare_91 w3653 x3645.Base x3646.Base hr3671).mono ?_
  rintro e_ w3672 ⟨rfl, K3673⟩
  have M3674 := M3654.call0 K3673
  refine ⟨_, rfl, ?_⟩
  refine W_run 1 [(4, .int .i64 r3671)] w3672 (by kernel_rfl) ?_
  refine W_nil ?_
  refine N_then ?_
  refine G_ret ?_
  obtain rfl := Option.some.inj hm
  refine N_ret [.int .i64 r3671] (RVs_cons (RV_tmp (by kernel_rfl)) RVs_nil) ?_
  exact ⟨rfl, M3674.pick [] (by kernel_rfl)⟩
theorem c_slices_insertionSortCmpFunc_96__i_asMap_1 (w : World) (x3707 : List Region) (p3709 : Option Addr) (c3710 : Nat) (sg3711 : Seg) (ho3712 : ownS encRegion x3707 p3709 c3710 sg3711) (x3713 : Int) (x3714 : Int) (hA : ∀ q ∈ List.flatten [sg3711], w.heap[q.1]? = some q.2) (hN : (idsOf [sg3711]).Nodup) {r : (List Region)} (hm : M.slices_insertionSortCmpFunc_96__i_asMap_1 x3707 x3713 x3714 = some r) :
    Calls Try.prog 96 #[.slice p3709 x3707.length c3710, .int .i64 x3713, .int .i64 x3714, .func (.func 90) #[] #[]] w fun e w' => ∃ (sg3715 : Seg), e = .returned (.tuple #[]) ∧ ownS encRegion r p3709 c3710 sg3715 ∧ r.length = x3707.length ∧ Mem (idsOf [sg3711]) w w' [sg3715] := by
  unfold M.slices_insertionSortCmpFunc_96__i_asMap_1 at hm
  refine C_enter Try.func96 rfl (by kernel_rfl) ?_
  have M0 := Mem.start' w [sg3711] hA hN
  refine G_seq ?_
  refine G_region ?_
  refine W_run 3 [(0, .slice p3709 x3707.length c3710), (1, .int .i64 x3713), (2, .int .i64 x3714), (3, .func (.func 90) #[] #[]), (8, .int .i64 (w64 (x3713 + 1)))] w (by kernel_rfl) ?_
  refine W_nil ?_
  refine N_then ?_
  obtain ⟨out4442, hw4443, hmo4444⟩ := gx_bind hm
  refine G_meet (fun a w' => ∃ (sg4449 : Seg), ownS encRegion out4442 p3709 c3710 sg4449 ∧ out4442.length = x3707.length ∧ Mem (idsOf [sg3711]) w w' [sg4449] ∧ Sat Try.f96.ntmps [] a) ?_ ?_
  · refine G_block ?_
    refine G_while (σ := Int × List Region) (ρ := List Region) (fun s4435 a w' => ∃ (sg4445 : Seg), ownS encRegion s4435.2 p3709 c3710 sg4445 ∧ s4435.2.length = x3707.length ∧ Mem (idsOf [sg3711]) w w' [sg4445] ∧ Sat Try.f96.ntmps [(0, .slice p3709 s4435.2.length c3710), (1, .int .i64 x3713), (2, .int .i64 x3714), (3, .func (.func 90) #[] #[]), (8, .int .i64 s4435.1)] a) hw4443 (fun a ha => ⟨sg3711, ho3712, rfl, M0.pick [0] (by kernel_rfl), ha.sub (by kernel_rfl)⟩) ?_
    clear hm
    intro s4435 x4436 hm hout4437 a4438 w4439 ⟨sg4445, ho4446, hl4447, M4440, hS4441⟩
    refine G_use hS4441 ?_
    refine G_seq ?_
    refine G_seq ?_
    refine G_region ?_
    refine W_run 3 [(0, .slice p3709 s4435.2.length c3710), (1, .int .i64 x3713), (2, .int .i64 x3714), (3, .func (.func 90) #[] #[]), (8, .int .i64 s4435.1), (14, .bool (decide (s4435.1 < x3714)))] w4439 (by kernel_rfl) ?_
    refine W_nil ?_
    refine N_then ?_
    rcases gx_bif hm with ⟨hc4452, hm⟩ | ⟨hc4452, hm⟩
    · refine G_cond_t (b := (decide (s4435.1 < x3714))) hc4452 (by kernel_rfl) ?_
      refine G_skip ?_
      refine N_then ?_
      refine G_seq ?_
      refine G_block ?_
      refine G_seq ?_
      refine G_region ?_
      refine W_run 2 [(0, .slice p3709 s4435.2.length c3710), (1, .int .i64 x3713), (2, .int .i64 x3714), (3, .func (.func 90) #[] #[]), (8, .int .i64 s4435.1), (9, .int .i64 s4435.1)] w4439 (by kernel_rfl) ?_
      refine W_nil ?_
      refine N_then ?_
      obtain ⟨out4685, hw4686, hmo4687⟩ := gx_bind hm
      refine G_meet (fun a w' => ∃ (sg4692 : Seg), ownS encRegion out4685 p3709 c3710 sg4692 ∧ out4685.length = x3707.length ∧ Mem (idsOf [sg3711]) w w' [sg4692] ∧ Sat Try.f96.ntmps [(0, .slice p3709 out4685.length c3710), (1, .int .i64 x3713), (2, .int .i64 x3714), (3, .func (.func 90) #[] #[]), (8, .int .i64 s4435.1)] a) ?_ ?_
      · refine G_block ?_
        refine G_while (σ := Int × List Region) (ρ := List Region) (fun s4678 a w' => ∃ (sg4688 : Seg), ownS encRegion s4678.2 p3709 c3710 sg4688 ∧ s4678.2.length = x3707.length ∧ Mem (idsOf [sg3711]) w w' [sg4688] ∧ Sat Try.f96.ntmps [(0, .slice p3709 s4678.2.length c3710), (1, .int .i64 x3713), (2, .int .i64 x3714), (3, .func (.func 90) #[] #[]), (8, .int .i64 s4435.1), (9, .int .i64 s4678.1)] a) hw4686 (fun a ha => ⟨sg4445, ho4446, hl4447, M4440.pick [0] (by kernel_rfl), ha.sub (by kernel_rfl)⟩) ?_
        clear hm
        intro s4678 x4679 hm hout4680 a4681 w4682 ⟨sg4688, ho4689, hl4690, M4683, hS4684⟩
        refine G_use hS4684 ?_
        refine G_seq ?_
        refine G_seq ?_
        obtain ⟨o4706, ho4707, hm4708⟩ := gx_bind hm
        refine G_meet (fun a w' => Mem (idsOf [sg3711]) w w' [sg4688] ∧ Sat Try.f96.ntmps [(0, .slice p3709 s4678.2.length c3710), (1, .int .i64 x3713), (2, .int .i64 x3714), (3, .func (.func 90) #[] #[]), (8, .int .i64 s4435.1), (9, .int .i64 s4678.1), (34, .bool o4706)] a) ?_ ?_
        · have hm := ho4707
          refine G_quiet (by kernel_rfl) (by kernel_rfl) M4683 ?_
          refine Z_runs [.int .i64 s4678.1, .int .i64 x3713, .bool (decide (s4678.1 > x3713)), .bool (decide (s4678.1 > x3713))] [(0, .slice p3709 s4678.2.length c3710), (1, .int .i64 x3713), (2, .int .i64 x3714), (3, .func (.func 90) #[] #[]), (8, .int .i64 s4435.1), (9, .int .i64 s4678.1), (21, .bool (decide (s4678.1 > x3713)))] (fun w_ => by kernel_rfl) (by kernel_rfl) ?_
          rcases gx_bif hm with ⟨hc4709, hm⟩ | ⟨hc4709, hm⟩
          · refine Z_known 21 true (by kernel_rfl) hc4709 ?_
            refine Z_runs [.func (.func 90) #[] #[], .slice p3709 s4678.2.length c3710, .int .i64 s4678.1] [(0, .slice p3709 s4678.2.length c3710), (1, .int .i64 x3713), (2, .int .i64 x3714), (3, .func (.func 90) #[] #[]), (8, .int .i64 s4435.1), (9, .int .i64 s4678.1), (21, .bool true), (22, .func (.func 90) #[] #[]), (23, .slice p3709 s4678.2.length c3710), (24, .int .i64 s4678.1)] (fun w_ => by kernel_rfl) (by kernel_rfl) ?_
            obtain ⟨y4710, hy4710, hm⟩ := gx_bind hm
            refine Z_val (elemP p3709 (s4678.1.toNat * 4)) (by kernel_rfl) (fun w_ M_ => (E_index (E := encRegion) _ _ _ s4678.2.length c3710 .i64 s4678.1 4 (y := y4710) rfl (by kernel_rfl) (by kernel_rfl) (by kernel_rfl) (ho4689.rd M_ 0 (by kernel_rfl)) rfl hy4710)) ?_
            refine Z_val (.agg #[.int .i64 y4710.Base, .int .i64 y4710.Size, .int .i64 y4710.Kind, .int .i64 y4710.Unit]) (by kernel_rfl) (fun w_ M_ => (E_loadE (E := encRegion) _ _ true 4 s4678.1 0 (s4678.1.toNat * 4) y4710 (.agg #[.int .i64 y4710.Base, .int .i64 y4710.Size, .int .i64 y4710.Kind, .int .i64 y4710.Unit]) rfl (by kernel_rfl) (by kernel_rfl) (by kernel_rfl) (ho4689.rd M_ 0 (by kernel_rfl)) hy4710 rfl)) ?_
            refine Z_runs [.slice p3709 s4678.2.length c3710, .int .i64 s4678.1, .int .i64 (w64 (s4678.1 - 1))] [(0, .slice p3709 s4678.2.length c3710), (1, .int .i64 x3713), (2, .int .i64 x3714), (3, .func (.func 90) #[] #[]), (8, .int .i64 s4435.1), (9, .int .i64 s4678.1), (21, .bool true), (22, .func (.func 90) #[] #[]), (26, .agg #[.int .i64 y4710.Base, .int .i64 y4710.Size, .int .i64 y4710.Kind, .int .i64 y4710.Unit]), (27, .slice p3709 s4678.2.length c3710), (29, .int .i64 (w64 (s4678.1 - 1)))] (fun w_ => by kernel_rfl) (by kernel_rfl) ?_
            obtain ⟨y4711, hy4711, hm⟩ := gx_bind hm
            refine Z_val (elemP p3709 ((w64 (s4678.1 - 1)).toNat * 4)) (by kernel_rfl) (fun w_ M_ => (E_index (E := encRegion) _ _ _ s4678.2.length c3710 .i64 (w64 (s4678.1 - 1)) 4 (y := y4711) rfl (by kernel_rfl) (by kernel_rfl) (by kernel_rfl) (ho4689.rd M_ 0 (by kernel_rfl)) rfl hy4711)) ?_
            refine Z_val (.agg #[.int .i64 y4711.Base, .int .i64 y4711.Size, .int .i64 y4711.Kind, .int .i64 y4711.Unit]) (by kernel_rfl) (fun w_ M_ => (E_loadE (E := encRegion) _ _ true 4 (w64 (s4678.1 - 1)) 0 ((w64 (s4678.1 - 1)).toNat * 4) y4711 (.agg #[.int .i64 y4711.Base, .int .i64 y4711.Size, .int .i64 y4711.Kind, .int .i64 y4711.Unit]) rfl (by kernel_rfl) (by kernel_rfl) (by kernel_rfl) (ho4689.rd M_ 0 (by kernel_rfl)) hy4711 rfl)) ?_
            obtain ⟨r4712, hr4712, hm⟩ := gx_bind hm
            refine Z_call 90 #[.agg #[.int .i64 y4710.Base, .int .i64 y4710.Size, .int .i64 y4710.Kind, .int .i64 y4710.Unit], .agg #[.int .i64 y4711.Base, .int .i64 y4711.Size, .int .i64 y4711.Kind, .int .i64 y4711.Unit]] (.int .i64 r4712) (by kernel_rfl) (fun w_ => by kernel_rfl) (fun w_ M_ => (c_i_asMap_1 w_ y4710 y4711 hr4712).mono fun e w2_ h_ => ⟨h_.1, M_.call0 h_.2⟩) ?_
            refine Z_runs [.bool (decide (r4712 < 0)), .bool (decide (r4712 < 0))] [(0, .slice p3709 s4678.2.length c3710), (1, .int .i64 x3713), (2, .int .i64 x3714), (3, .func (.func 90) #[] #[]), (8, .int .i64 s4435.1), (9, .int .i64 s4678.1), (34, .bool (decide (r4712 < 0)))] (fun w_ => by kernel_rfl) (by kernel_rfl) ?_
            refine Z_end fun w4716 M4717 => ?_
            obtain rfl := Option.some.inj hm
            exact N_meet fun a ha => ⟨M4717.pick [0] (by kernel_rfl), ha.sub (by kernel_rfl)⟩
          · refine Z_known 21 false (by kernel_rfl) hc4709 ?_
            refine Z_runs [undef, undef, undef, undef, undef, undef, undef, undef, undef, undef, undef, undef, .bool false] [(0, .slice p3709 s4678.2.length c3710), (1, .int .i64 x3713), (2, .int .i64 x3714), (3, .func (.func 90) #[] #[]), (8, .int .i64 s4435.1), (9, .int .i64 s4678.1), (34, .bool false)] (fun w_ => by kernel_rfl) (by kernel_rfl) ?_
            refine Z_end fun w4718 M4719 => ?_
            obtain rfl := Option.some.inj hm
            exact N_meet fun a ha => ⟨M4719.pick [0] (by kernel_rfl), ha.sub (by kernel_rfl)⟩
        · intro a4722 w4720 ⟨M4721, hS4723⟩
          refine N_use hS4723 ?_
          have hm := hm4708
          refine N_then ?_
          rcases gx_bif hm with ⟨hc4724, hm⟩ | ⟨hc4724, hm⟩
          · refine G_cond_t (b := o4706) hc4724 (by kernel_rfl) ?_
            refine G_skip ?_
            refine N_then ?_
            refine G_seq ?_
            refine G_block ?_
            obtain ⟨y4727, hy4727, hm⟩ := gx_bind hm
            obtain ⟨y4728, hy4728, hm⟩ := gx_bind hm
            obtain ⟨y4729, hy4729, hm⟩ := gx_bind hm
            have M4731 : Mem (idsOf [sg3711]) w w4720 ([] ++ (List.range 16).map (fun i => ([[], [], [], [], [], [], [], [], [], [], [], [], [], [], [], sg4688] : List Seg).getD i [])) := M4721.pick [300000, 300001, 300002, 300003, 300004, 300005, 300006, 300007, 300008, 300009, 300010, 300011, 300012, 300013, 300014, 0] (by kernel_rfl)
            refine G_sub [(0, .slice p3709 s4678.2.length c3710), (1, .int .i64 x3713), (2, .int .i64 x3714), (3, .func (.func 90) #[] #[]), (8, .int .i64 s4435.1), (9, .int .i64 s4678.1), (34, .bool o4706)] (by kernel_rfl) ?_
            refine G_dagL 16 [[], [], [], [], [3], [], [], [6], [5, 7], [8], [], [], [10, 11], [12], [0, 1], [9, 14]] [[], [], [], [], [], [], [], [], [], [], [], [], [], [], [], []] [[], [], [], [], [], [], [], [], [], [], [], [], [], [], [], []] [[], [], [], [], [], [], [], [], [], [], [], [], [], [], [], []] [[], [], [], [], [], [], [], [], [], [], [], [], [], [], [], []] [[], [], [], [], [], [], [], [], [15], [15], [], [], [15], [15], [15], []] (fun i => ([[], [], [], [], [], [], [], [], [], [], [], [], [], [], [], sg4688] : List Seg).getD i []) (fun i => ([fun f v s => v = (.slice p3709 s4678.2.length c3710 : Value) ∧ s = [], fun f v s => v = (.int .i64 s4678.1 : Value) ∧ s = [], fun f v s => v = (.slice p3709 s4678.2.length c3710 : Value) ∧ s = [], fun f v s => v = (.int .i64 s4678.1 : Value) ∧ s = [], fun f v s => v = (.int .i64 (w64 (s4678.1 - 1)) : Value) ∧ s = [], fun f v s => v = (.slice p3709 s4678.2.length c3710 : Value) ∧ s = [], fun f v s => v = (.int .i64 s4678.1 : Value) ∧ s = [], fun f v s => v = (.int .i64 (w64 (s4678.1 - 1)) : Value) ∧ s = [], fun f v s => v = (elemP p3709 ((w64 (s4678.1 - 1)).toNat * 4) : Value) ∧ s = [], fun f v s => v = (.agg #[.int .i64 y4727.Base, .int .i64 y4727.Size, .int .i64 y4727.Kind, .int .i64 y4727.Unit] : Value) ∧ s = [], fun f v s => v = (.slice p3709 s4678.2.length c3710 : Value) ∧ s = [], fun f v s => v = (.int .i64 s4678.1 : Value) ∧ s = [], fun f v s => v = (elemP p3709 (s4678.1.toNat * 4) : Value) ∧ s = [], fun f v s => v = (.agg #[.int .i64 y4728.Base, .int .i64 y4728.Size, .int .i64 y4728.Kind, .int .i64 y4728.Unit] : Value) ∧ s = [], fun f v s => v = (elemP p3709 (s4678.1.toNat * 4) : Value) ∧ s = [], fun f v s => v = undef ∧ ownS encRegion (s4678.2.set s4678.1.toNat y4727) p3709 c3710 s] : List ((Nat → Value) → Value → Seg → Prop)).getD i (fun _ _ _ => False)) (fun j f v => ∃ s, (fun i => ([fun f v s => v = (.slice p3709 s4678.2.length c3710 : Value) ∧ s = [], fun f v s => v = (.int .i64 s4678.1 : Value) ∧ s = [], fun f v s => v = (.slice p3709 s4678.2.length c3710 : Value) ∧ s = [], fun f v s => v = (.int .i64 s4678.1 : Value) ∧ s = [], fun f v s => v = (.int .i64 (w64 (s4678.1 - 1)) : Value) ∧ s = [], fun f v s => v = (.slice p3709 s4678.2.length c3710 : Value) ∧ s = [], fun f v s => v = (.int .i64 s4678.1 : Value) ∧ s = [], fun f v s => v = (.int .i64 (w64 (s4678.1 - 1)) : Value) ∧ s = [], fun f v s => v = (elemP p3709 ((w64 (s4678.1 - 1)).toNat * 4) : Value) ∧ s = [], fun f v s => v = (.agg #[.int .i64 y4727.Base, .int .i64 y4727.Size, .int .i64 y4727.Kind, .int .i64 y4727.Unit] : Value) ∧ s = [], fun f v s => v = (.slice p3709 s4678.2.length c3710 : Value) ∧ s = [], fun f v s => v = (.int .i64 s4678.1 : Value) ∧ s = [], fun f v s => v = (elemP p3709 (s4678.1.toNat * 4) : Value) ∧ s = [], fun f v s => v = (.agg #[.int .i64 y4728.Base, .int .i64 y4728.Size, .int .i64 y4728.Kind, .int .i64 y4728.Unit] : Value) ∧ s = [], fun f v s => v = (elemP p3709 (s4678.1.toNat * 4) : Value) ∧ s = [], fun f v s => v = undef ∧ ownS encRegion (s4678.2.set s4678.1.toNat y4727) p3709 c3710 s] : List ((Nat → Value) → Value → Seg → Prop)).getD i (fun _ _ _ => False)) j f v s) [] [2, 4, 13, 15] [15] (fun _ _ _ s h => ⟨s, h⟩) (by kernel_rfl) (by kernel_rfl) M4731 (by kernel_rfl) (by kernel_rfl) (by kernel_rfl) (by kernel_rfl) (allOb_cons ?_ (allOb_cons ?_ (allOb_cons ?_ (allOb_cons ?_ (allOb_cons ?_ (allOb_cons ?_ (allOb_cons ?_ (allOb_cons ?_ (allOb_cons ?_ (allOb_cons ?_ (allOb_cons ?_ (allOb_cons ?_ (allOb_cons ?_ (allOb_cons ?_ (allOb_cons ?_ (allOb_cons ?_ allOb_nil)))))))))))))))) ?_
            · intro g4725 f4726
              intro R w4732 M4733
              refine W_run 1 [(37, .slice p3709 s4678.2.length c3710)] w4732 (by kernel_rfl) ?_
              exact W_nil (ob_end (.slice p3709 s4678.2.length c3710) [] rfl (by kernel_rfl) ⟨by kernel_rfl, rfl⟩ M4733)
            · intro g4725 f4726
              intro R w4736 M4737
              refine W_run 1 [(38, .int .i64 s4678.1)] w4736 (by kernel_rfl) ?_
              exact W_nil (ob_end (.int .i64 s4678.1) [] rfl (by kernel_rfl) ⟨by kernel_rfl, rfl⟩ M4737)
            · intro g4725 f4726
              intro R w4740 M4741
              refine W_run 1 [(39, .slice p3709 s4678.2.length c3710)] w4740 (by kernel_rfl) ?_
              exact W_nil (ob_end (.slice p3709 s4678.2.length c3710) [] rfl (by kernel_rfl) ⟨by kernel_rfl, rfl⟩ M4741)
            · intro g4725 f4726
              intro R w4744 M4745
              refine W_run 1 [(40, .int .i64 s4678.1)] w4744 (by kernel_rfl) ?_
              exact W_nil (ob_end (.int .i64 s4678.1) [] rfl (by kernel_rfl) ⟨by kernel_rfl, rfl⟩ M4745)
            · intro g4725 f4726
              intro v3_ hb3_
              obtain ⟨rfl, _⟩ := hb3_
              intro R w4748 M4749
              refine W_run 1 [(41, .int .i64 (w64 (s4678.1 - 1)))] w4748 (by kernel_rfl) ?_
              exact W_nil (ob_end (.int .i64 (w64 (s4678.1 - 1))) [] rfl (by kernel_rfl) ⟨by kernel_rfl, rfl⟩ M4749)
            · intro g4725 f4726
              intro R w4752 M4753
              refine W_run 1 [(42, .slice p3709 s4678.2.length c3710)] w4752 (by kernel_rfl) ?_
              exact W_nil (ob_end (.slice p3709 s4678.2.length c3710) [] rfl (by kernel_rfl) ⟨by kernel_rfl, rfl⟩ M4753)
            · intro g4725 f4726
              intro R w4756 M4757
              refine W_run 1 [(43, .int .i64 s4678.1)] w4756 (by kernel_rfl) ?_
              exact W_nil (ob_end (.int .i64 s4678.1) [] rfl (by kernel_rfl) ⟨by kernel_rfl, rfl⟩ M4757)
            · intro g4725 f4726
              intro v6_ hb6_
              obtain ⟨rfl, _⟩ := hb6_
              intro R w4760 M4761
              refine W_run 1 [(44, .int .i64 (w64 (s4678.1 - 1)))] w4760 (by kernel_rfl) ?_
              exact W_nil (ob_end (.int .i64 (w64 (s4678.1 - 1))) [] rfl (by kernel_rfl) ⟨by kernel_rfl, rfl⟩ M4761)
            · intro g4725 f4726
              intro v5_ hb5_
              obtain ⟨rfl, _⟩ := hb5_
              intro v7_ hb7_
              obtain ⟨rfl, _⟩ := hb7_
              intro R w4764 M4765
              refine W_val (elemP p3709 ((w64 (s4678.1 - 1)).toNat * 4)) w4764 (by kernel_rfl) (E_index (E := encRegion) _ _ _ s4678.2.length c3710 .i64 (w64 (s4678.1 - 1)) 4 (y := y4727) rfl (by kernel_rfl) (by kernel_rfl) (by kernel_rfl) (ho4689.rd M4765 1 (by kernel_rfl)) rfl hy4727) ?_
              exact W_nil (ob_end (elemP p3709 ((w64 (s4678.1 - 1)).toNat * 4)) [] rfl (by kernel_rfl) ⟨by kernel_rfl, rfl⟩ M4765)
            · intro g4725 f4726
              intro v8_ hb8_
              obtain ⟨rfl, _⟩ := hb8_
              intro R w4768 M4769
              refine W_val (.agg #[.int .i64 y4727.Base, .int .i64 y4727.Size, .int .i64 y4727.Kind, .int .i64 y4727.Unit]) w4768 (by kernel_rfl) (E_loadE (E := encRegion) _ _ true 4 (w64 (s4678.1 - 1)) 0 ((w64 (s4678.1 - 1)).toNat * 4) y4727 (.agg #[.int .i64 y4727.Base, .int .i64 y4727.Size, .int .i64 y4727.Kind, .int .i64 y4727.Unit]) rfl (by kernel_rfl) (by kernel_rfl) (by kernel_rfl) (ho4689.rd M4769 1 (by kernel_rfl)) hy4727 rfl) ?_
              exact W_nil (ob_end (.agg #[.int .i64 y4727.Base, .int .i64 y4727.Size, .int .i64 y4727.Kind, .int .i64 y4727.Unit]) [] rfl (by kernel_rfl) ⟨by kernel_rfl, rfl⟩ M4769)
            · intro g4725 f4726
              intro R w4772 M4773
              refine W_run 1 [(47, .slice p3709 s4678.2.length c3710)] w4772 (by kernel_rfl) ?_
              exact W_nil (ob_end (.slice p3709 s4678.2.length c3710) [] rfl (by kernel_rfl) ⟨by kernel_rfl, rfl⟩ M4773)
            · intro g4725 f4726
              intro R w4776 M4777
              refine W_run 1 [(48, .int .i64 s4678.1)] w4776 (by kernel_rfl) ?_
              exact W_nil (ob_end (.int .i64 s4678.1) [] rfl (by kernel_rfl) ⟨by kernel_rfl, rfl⟩ M4777)
            · intro g4725 f4726
              intro v10_ hb10_
              obtain ⟨rfl, _⟩ := hb10_
              intro v11_ hb11_
              obtain ⟨rfl, _⟩ := hb11_
              intro R w4780 M4781
              refine W_val (elemP p3709 (s4678.1.toNat * 4)) w4780 (by kernel_rfl) (E_index (E := encRegion) _ _ _ s4678.2.length c3710 .i64 s4678.1 4 (y := y4728) rfl (by kernel_rfl) (by kernel_rfl) (by kernel_rfl) (ho4689.rd M4781 1 (by kernel_rfl)) rfl hy4728) ?_
              exact W_nil (ob_end (elemP p3709 (s4678.1.toNat * 4)) [] rfl (by kernel_rfl) ⟨by kernel_rfl, rfl⟩ M4781)
            · intro g4725 f4726
              intro v12_ hb12_
              obtain ⟨rfl, _⟩ := hb12_
              intro R w4784 M4785
              refine W_val (.agg #[.int .i64 y4728.Base, .int .i64 y4728.Size, .int .i64 y4728.Kind, .int .i64 y4728.Unit]) w4784 (by kernel_rfl) (E_loadE (E := encRegion) _ _ true 4 s4678.1 0 (s4678.1.toNat * 4) y4728 (.agg #[.int .i64 y4728.Base, .int .i64 y4728.Size, .int .i64 y4728.Kind, .int .i64 y4728.Unit]) rfl (by kernel_rfl) (by kernel_rfl) (by kernel_rfl) (ho4689.rd M4785 1 (by kernel_rfl)) hy4728 rfl) ?_
              exact W_nil (ob_end (.agg #[.int .i64 y4728.Base, .int .i64 y4728.Size, .int .i64 y4728.Kind, .int .i64 y4728.Unit]) [] rfl (by kernel_rfl) ⟨by kernel_rfl, rfl⟩ M4785)
            · intro g4725 f4726
              intro v0_ hb0_
              obtain ⟨rfl, _⟩ := hb0_
              intro v1_ hb1_
              obtain ⟨rfl, _⟩ := hb1_
              intro R w4788 M4789
              refine W_val (elemP p3709 (s4678.1.toNat * 4)) w4788 (by kernel_rfl) (E_index (E := encRegion) _ _ _ s4678.2.length c3710 .i64 s4678.1 4 (y := y4729) rfl (by kernel_rfl) (by kernel_rfl) (by kernel_rfl) (ho4689.rd M4789 1 (by kernel_rfl)) rfl hy4729) ?_
              exact W_nil (ob_end (elemP p3709 (s4678.1.toNat * 4)) [] rfl (by kernel_rfl) ⟨by kernel_rfl, rfl⟩ M4789)
            · intro g4725 f4726
              intro v9_ hb9_
              obtain ⟨rfl, _⟩ := hb9_
              intro v14_ hb14_
              obtain ⟨rfl, _⟩ := hb14_
              intro R w4792 M4793
              refine W_storeE (E := encRegion) _ _ _ true 4 s4678.1.toNat 0 (s4678.1.toNat * 4) y4729 y4727 (.agg #[.int .i64 y4727.Base, .int .i64 y4727.Size, .int .i64 y4727.Kind, .int .i64 y4727.Unit]) 0 M4793 ho4689 (by kernel_rfl) (by kernel_rfl) rfl (by kernel_rfl) (by kernel_rfl) (by kernel_rfl) (by kernel_rfl) (by kernel_rfl) (by kernel_rfl) (by kernel_rfl) (gxIdx_spec hy4729).2 rfl ?_
              intro w4794 sg4796 ho4797 M4795
              exact W_nil (ob_none sg4796 rfl ⟨rfl, ho4797⟩ M4795)
            · intro g4725 f4726
              intro v2_ hb2_
              obtain ⟨rfl, _⟩ := hb2_
              intro v4_ hb4_
              obtain ⟨rfl, _⟩ := hb4_
              intro v13_ hb13_
              obtain ⟨rfl, _⟩ := hb13_
              intro v15_ hb15_
              obtain ⟨rfl, ho4730⟩ := hb15_
              intro w4798 M4799
              have M4800 : Mem (idsOf [sg3711]) w w4798 [(g4725 15)] := M4799
              refine W_conv 0 (.slice p3709 s4678.2.length c3710) (.slice p3709 (s4678.2.set s4678.1.toNat y4727).length c3710) (by kernel_rfl) (by rw [@List.length_set _ s4678.2 s4678.1.toNat y4727]) ?_
              refine W_conv 39 (.slice p3709 s4678.2.length c3710) (.slice p3709 (s4678.2.set s4678.1.toNat y4727).length c3710) (by kernel_rfl) (by rw [@List.length_set _ s4678.2 s4678.1.toNat y4727]) ?_
              obtain ⟨y4801, hy4801, hm⟩ := gx_bind hm
              refine W_val (elemP p3709 ((w64 (s4678.1 - 1)).toNat * 4)) w4798 (by kernel_rfl) (E_index (E := encRegion) _ _ _ (s4678.2.set s4678.1.toNat y4727).length c3710 .i64 (w64 (s4678.1 - 1)) 4 (y := y4801) rfl (by kernel_rfl) (by kernel_rfl) (by kernel_rfl) (ho4730.rd M4800 0 (by kernel_rfl)) rfl hy4801) ?_
              refine W_storeE (E := encRegion) _ _ _ true 4 (w64 (s4678.1 - 1)).toNat 0 ((w64 (s4678.1 - 1)).toNat * 4) y4801 y4728 (.agg #[.int .i64 y4728.Base, .int .i64 y4728.Size, .int .i64 y4728.Kind, .int .i64 y4728.Unit]) 0 M4800 ho4730 (by kernel_rfl) (by kernel_rfl) rfl (by kernel_rfl) (by kernel_rfl) (by kernel_rfl) (by kernel_rfl) (by kernel_rfl) (by kernel_rfl) (by kernel_rfl) (gxIdx_spec hy4801).2 rfl ?_
              intro w4802 sg4804 ho4805 M4803
              refine W_conv 0 (.slice p3709 (s4678.2.set s4678.1.toNat y4727).length c3710) (.slice p3709 ((s4678.2.set s4678.1.toNat y4727).set (w64 (s4678.1 - 1)).toNat y4728).length c3710) (by kernel_rfl) (by rw [@List.length_set _ (s4678.2.set s4678.1.toNat y4727) ((w64 (s4678.1 - 1)).toNat) y4728]) ?_
              refine W_conv 39 (.slice p3709 (s4678.2.set s4678.1.toNat y4727).length c3710) (.slice p3709 ((s4678.2.set s4678.1.toNat y4727).set (w64 (s4678.1 - 1)).toNat y4728).length c3710) (by kernel_rfl) (by rw [@List.length_set _ (s4678.2.set s4678.1.toNat y4727) ((w64 (s4678.1 - 1)).toNat) y4728]) ?_
              refine W_nil ?_
              refine N_block ?_
              refine N_then ?_
              refine G_region ?_
              refine W_run 3 [(0, .slice p3709 ((s4678.2.set s4678.1.toNat y4727).set (w64 (s4678.1 - 1)).toNat y4728).length c3710), (1, .int .i64 x3713), (2, .int .i64 x3714), (3, .func (.func 90) #[] #[]), (8, .int .i64 s4435.1), (9, .int .i64 (w64 (s4678.1 - 1)))] w4802 (by kernel_rfl) ?_
              refine W_nil ?_
              obtain rfl := Option.some.inj hm
              exact N_loop fun a ha => ⟨_, rfl, sg4804, ho4805, (List.length_set.trans (List.length_set.trans hl4690)), M4803.pick [0] (by kernel_rfl), ha.sub (by kernel_rfl)⟩
          · refine G_cond_f (b := o4706) hc4724 (by kernel_rfl) ?_
            refine G_exit ?_
            refine N_then_exit ?_
            refine N_then_exit ?_
            refine N_block_eq ?_
            obtain rfl := Option.some.inj hm
            obtain rfl := hout4680 _ rfl
            exact N_meet fun a ha => ⟨sg4688, ho4689, hl4690, M4721.pick [0] (by kernel_rfl), ha.sub (by kernel_rfl)⟩
      · intro a4806 w4807 ⟨sg4692, ho4693, hl4694, M4808, hS4809⟩
        refine N_use hS4809 ?_
        have hm := hmo4687
        refine N_block ?_
        refine N_then ?_
        refine G_region ?_
        refine W_run 3 [(0, .slice p3709 out4685.length c3710), (1, .int .i64 x3713), (2, .int .i64 x3714), (3, .func (.func 90) #[] #[]), (8, .int .i64 (w64 (s4435.1 + 1)))] w4807 (by kernel_rfl) ?_
        refine W_nil ?_
        obtain rfl := Option.some.inj hm
        exact N_loop fun a ha => ⟨_, rfl, sg4692, ho4693, hl4694, M4808.pick [0] (by kernel_rfl), ha.sub (by kernel_rfl)⟩
    · refine G_cond_f (b := (decide (s4435.1 < x3714))) hc4452 (by kernel_rfl) ?_
      refine G_exit ?_
      refine N_then_exit ?_
      refine N_then_exit ?_
      refine N_block_eq ?_
      obtain rfl := Option.some.inj hm
      obtain rfl := hout4437 _ rfl
      exact N_meet fun a ha => ⟨sg4445, ho4446, hl4447, M4440.pick [0] (by kernel_rfl), ha.sub (by kernel_rfl)⟩
  · intro a4810 w4811 ⟨sg4449, ho4450, hl4451, M4812, hS4813⟩
    refine N_use hS4813 ?_
    have hm := hmo4444
    obtain rfl := Option.some.inj hm
    refine N_end [] (RVs_nil) ?_
    exact ⟨sg4449, rfl, ho4450, hl4451, M4812.pick [0] (by kernel_rfl)⟩
theorem c_slices_swapRangeCmpFunc_99__i_asMap_1 (w : World) (x5766 : List Region) (p5768 : Option Addr) (c5769 : Nat) (sg5770 : Seg) (ho5771 : ownS encRegion x5766 p5768 c5769 sg5770) (x5772 : Int) (x5773 : Int) (x5774 : Int) (hA : ∀ q ∈ List.flatten [sg5770], w.heap[q.1]? = some q.2) (hN : (idsOf [sg5770]).Nodup) {r : (List Region)} (hm : M.slices_swapRangeCmpFunc_99__i_asMap_1 x5766 x5772 x5773 x5774 = some r) :
    Calls Try.prog 99 #[.slice p5768 x5766.length c5769, .int .i64 x5772, .int .i64 x5773, .int .i64 x5774, .func (.func 90) #[] #[]] w fun e w' => ∃ (sg5775 : Seg), e = .returned (.tuple #[]) ∧ ownS encRegion r p5768 c5769 sg5775 ∧ r.length = x5766.length ∧ Mem (idsOf [sg5770]) w w' [sg5775] := by
  unfold M.slices_swapRangeCmpFunc_99__i_asMap_1 at hm
  refine C_enter Try.func99 rfl (by kernel_rfl) ?_
  have M0 := Mem.start' w [sg5770] hA hN
  refine G_seq ?_
  refine G_region ?_
  refine W_run 1 [(0, .slice p5768 x5766.length c5769), (1, .int .i64 x5772), (2, .int .i64 x5773), (3, .int .i64 x5774), (10, .int .i64 0)] w (by kernel_rfl) ?_
  refine W_nil ?_
  refine N_then ?_
  obtain ⟨out5998, hw5999, hmo6000⟩ := gx_bind hm
  refine G_meet (fun a w' => ∃ (sg6005 : Seg), ownS encRegion out5998 p5768 c5769 sg6005 ∧ out5998.length = x5766.length ∧ Mem (idsOf [sg5770]) w w' [sg6005] ∧ Sat Try.f99.ntmps [] a) ?_ ?_
  · refine G_block ?_
    refine G_while (σ := Int × List Region) (ρ := List Region) (fun s5991 a w' => ∃ (sg6001 : Seg), ownS encRegion s5991.2 p5768 c5769 sg6001 ∧ s5991.2.length = x5766.length ∧ Mem (idsOf [sg5770]) w w' [sg6001] ∧ Sat Try.f99.ntmps [(0, .slice p5768 s5991.2.length c5769), (1, .int .i64 x5772), (2, .int .i64 x5773), (3, .int .i64 x5774), (10, .int .i64 s5991.1)] a) hw5999 (fun a ha => ⟨sg5770, ho5771, rfl, M0.pick [0] (by kernel_rfl), ha.sub (by kernel_rfl)⟩) ?_
    clear hm
    intro s5991 x5992 hm hout5993 a5994 w5995 ⟨sg6001, ho6002, hl6003, M5996, hS5997⟩
    refine G_use hS5997 ?_
    refine G_seq ?_
    refine G_seq ?_
    refine G_region ?_
    refine W_run 3 [(0, .slice p5768 s5991.2.length c5769), (1, .int .i64 x5772), (2, .int .i64 x5773), (3, .int .i64 x5774), (10, .int .i64 s5991.1), (13, .bool (decide (s5991.1 < x5774)))] w5995 (by kernel_rfl) ?_
    refine W_nil ?_
    refine N_then ?_
    rcases gx_bif hm with ⟨hc6008, hm⟩ | ⟨hc6008, hm⟩
    · refine G_cond_t (b := (decide (s5991.1 < x5774))) hc6008 (by kernel_rfl) ?_
      refine G_skip ?_
      refine N_then ?_
      refine G_seq ?_
      refine G_block ?_
      obtain ⟨y6011, hy6011, hm⟩ := gx_bind hm
      obtain ⟨y6012, hy6012, hm⟩ := gx_bind hm
      obtain ⟨y6013, hy6013, hm⟩ := gx_bind hm
      have M6015 : Mem (idsOf [sg5770]) w w5995 ([] ++ (List.range 22).map (fun i => ([[], [], [], [], [], [], [], [], [], [], [], [], [], [], [], [], [], [], [], [], [], sg6001] : List Seg).getD i [])) := M5996.pick [300000, 300001, 300002, 300003, 300004, 300005, 300006, 300007, 300008, 300009, 300010, 300011, 300012, 300013, 300014, 300015, 300016, 300017, 300018, 300019, 300020, 0] (by kernel_rfl)
      refine G_sub [(0, .slice p5768 s5991.2.length c5769), (1, .int .i64 x5772), (2, .int .i64 x5773), (3, .int .i64 x5774), (10, .int .i64 s5991.1), (13, .bool (decide (s5991.1 < x5774)))] (by kernel_rfl) ?_
      refine G_dagL 22 [[], [], [], [1, 2], [], [], [], [5, 6], [], [], [], [9, 10], [8, 11], [12], [], [], [], [15, 16], [14, 17], [18], [0, 3], [13, 20]] [[], [], [], [], [], [], [], [], [], [], [], [], [], [], [], [], [], [], [], [], [], []] [[], [], [], [], [], [], [], [], [], [], [], [], [], [], [], [], [], [], [], [], [], []] [[], [], [], [], [], [], [], [], [], [], [], [], [], [], [], [], [], [], [], [], [], []] [[], [], [], [], [], [], [], [], [], [], [], [], [], [], [], [], [], [], [], [], [], []] [[], [], [], [], [], [], [], [], [], [], [], [], [21], [21], [], [], [], [], [21], [21], [21], []] (fun i => ([[], [], [], [], [], [], [], [], [], [], [], [], [], [], [], [], [], [], [], [], [], sg6001] : List Seg).getD i []) (fun i => ([fun f v s => v = (.slice p5768 s5991.2.length c5769 : Value) ∧ s = [], fun f v s => v = (.int .i64 x5772 : Value) ∧ s = [], fun f v s => v = (.int .i64 s5991.1 : Value) ∧ s = [], fun f v s => v = (.int .i64 (w64 (x5772 + s5991.1)) : Value) ∧ s = [], fun f v s => v = (.slice p5768 s5991.2.length c5769 : Value) ∧ s = [], fun f v s => v = (.int .i64 x5773 : Value) ∧ s = [], fun f v s => v = (.int .i64 s5991.1 : Value) ∧ s = [], fun f v s => v = (.int .i64 (w64 (x5773 + s5991.1)) : Value) ∧ s = [], fun f v s => v = (.slice p5768 s5991.2.length c5769 : Value) ∧ s = [], fun f v s => v = (.int .i64 x5773 : Value) ∧ s = [], fun f v s => v = (.int .i64 s5991.1 : Value) ∧ s = [], fun f v s => v = (.int .i64 (w64 (x5773 + s5991.1)) : Value) ∧ s = [], fun f v s => v = (elemP p5768 ((w64 (x5773 + s5991.1)).toNat * 4) : Value) ∧ s = [], fun f v s => v = (.agg #[.int .i64 y6011.Base, .int .i64 y6011.Size, .int .i64 y6011.Kind, .int .i64 y6011.Unit] : Value) ∧ s = [], fun f v s => v = (.slice p5768 s5991.2.length c5769 : Value) ∧ s = [], fun f v s => v = (.int .i64 x5772 : Value) ∧ s = [], fun f v s => v = (.int .i64 s5991.1 : Value) ∧ s = [], fun f v s => v = (.int .i64 (w64 (x5772 + s5991.1)) : Value) ∧ s = [], fun f v s => v = (elemP p5768 ((w64 (x5772 + s5991.1)).toNat * 4) : Value) ∧ s = [], fun f v s => v = (.agg #[.int .i64 y6012.Base, .int .i64 y6012.Size, .int .i64 y6012.Kind, .int .i64 y6012.Unit] : Value) ∧ s = [], fun f v s => v = (elemP p5768 ((w64 (x5772 + s5991.1)).toNat * 4) : Value) ∧ s = [], fun f v s => v = undef ∧ ownS encRegion (s5991.2.set (w64 (x5772 + s5991.1)).toNat y6011) p5768 c5769 s] : List ((Nat → Value) → Value → Seg → Prop)).getD i (fun _ _ _ => False)) (fun j f v => ∃ s, (fun i => ([fun f v s => v = (.slice p5768 s5991.2.length c5769 : Value) ∧ s = [], fun f v s => v = (.int .i64 x5772 : Value) ∧ s = [], fun f v s => v = (.int .i64 s5991.1 : Value) ∧ s = [], fun f v s => v = (.int .i64 (w64 (x5772 + s5991.1)) : Value) ∧ s = [], fun f v s => v = (.slice p5768 s5991.2.length c5769 : Value) ∧ s = [], fun f v s => v = (.int .i64 x5773 : Value) ∧ s = [], fun f v s => v = (.int .i64 s5991.1 : Value) ∧ s = [], fun f v s => v = (.int .i64 (w64 (x5773 + s5991.1)) : Value) ∧ s = [], fun f v s => v = (.slice p5768 s5991.2.length c5769 : Value) ∧ s = [], fun f v s => v = (.int .i64 x5773 : Value) ∧ s = [], fun f v s => v = (.int .i64 s5991.1 : Value) ∧ s = [], fun f v s => v = (.int .i64 (w64 (x5773 + s5991.1)) : Value) ∧ s = [], fun f v s => v = (elemP p5768 ((w64 (x5773 + s5991.1)).toNat * 4) : Value) ∧ s = [], fun f v s => v = (.agg #[.int .i64 y6011.Base, .int .i64 y6011.Size, .int .i64 y6011.Kind, .int .i64 y6011.Unit] : Value) ∧ s = [], fun f v s => v = (.slice p5768 s5991.2.length c5769 : Value) ∧ s = [], fun f v s => v = (.int .i64 x5772 : Value) ∧ s = [], fun f v s => v = (.int .i64 s5991.1 : Value) ∧ s = [], fun f v s => v = (.int .i64 (w64 (x5772 + s5991.1)) : Value) ∧ s = [], fun f v s => v = (elemP p5768 ((w64 (x5772 + s5991.1)).toNat * 4) : Value) ∧ s = [], fun f v s => v = (.agg #[.int .i64 y6012.Base, .int .i64 y6012.Size, .int .i64 y6012.Kind, .int .i64 y6012.Unit] : Value) ∧ s = [], fun f v s => v = (elemP p5768 ((w64 (x5772 + s5991.1)).toNat * 4) : Value) ∧ s = [], fun f v s => v = undef ∧ ownS encRegion (s5991.2.set (w64 (x5772 + s5991.1)).toNat y6011) p5768 c5769 s] : List ((Nat → Value) → Value → Seg → Prop)).getD i (fun _ _ _ => False)) j f v s) [] [4, 7, 19, 21] [21] (fun _ _ _ s h => ⟨s, h⟩) (by kernel_rfl) (by kernel_rfl) M6015 (by kernel_rfl) (by kernel_rfl) (by kernel_rfl) (by kernel_rfl) (allOb_cons ?_ (allOb_cons ?_ (allOb_cons ?_ (allOb_cons ?_ (allOb_cons ?_ (allOb_cons ?_ (allOb_cons ?_ (allOb_cons ?_ (allOb_cons ?_ (allOb_cons ?_ (allOb_cons ?_ (allOb_cons ?_ (allOb_cons ?_ (allOb_cons ?_ (allOb_cons ?_ (allOb_cons ?_ (allOb_cons ?_ (allOb_cons ?_ (allOb_cons ?_ (allOb_cons ?_ (allOb_cons ?_ (allOb_cons ?_ allOb_nil)))))))))))))))))))))) ?_
      · intro g6009 f6010
        intro R w6016 M6017
        refine W_run 1 [(16, .slice p5768 s5991.2.length c5769)] w6016 (by kernel_rfl) ?_
        exact W_nil (ob_end (.slice p5768 s5991.2.length c5769) [] rfl (by kernel_rfl) ⟨by kernel_rfl, rfl⟩ M6017)
      · intro g6009 f6010
        intro R w6020 M6021
        refine W_run 1 [(17, .int .i64 x5772)] w6020 (by kernel_rfl) ?_
        exact W_nil (ob_end (.int .i64 x5772) [] rfl (by kernel_rfl) ⟨by kernel_rfl, rfl⟩ M6021)
      · intro g6009 f6010
        intro R w6024 M6025
        refine W_run 1 [(18, .int .i64 s5991.1)] w6024 (by kernel_rfl) ?_
        exact W_nil (ob_end (.int .i64 s5991.1) [] rfl (by kernel_rfl) ⟨by kernel_rfl, rfl⟩ M6025)
      · intro g6009 f6010
        intro v1_ hb1_
        obtain ⟨rfl, _⟩ := hb1_
        intro v2_ hb2_
        obtain ⟨rfl, _⟩ := hb2_
        intro R w6028 M6029
        refine W_run 1 [(19, .int .i64 (w64 (x5772 + s5991.1)))] w6028 (by kernel_rfl) ?_
        exact W_nil (ob_end (.int .i64 (w64 (x5772 + s5991.1))) [] rfl (by kernel_rfl) ⟨by kernel_rfl, rfl⟩ M6029)
      · intro g6009 f6010
        intro R w6032 M6033
        refine W_run 1 [(20, .slice p5768 s5991.2.length c5769)] w6032 (by kernel_rfl) ?_
        exact W_nil (ob_end (.slice p5768 s5991.2.length c5769) [] rfl (by kernel_rfl) ⟨by kernel_rfl, rfl⟩ M6033)
      · intro g6009 f6010
        intro R w6036 M6037
        refine W_run 1 [(21, .int .i64 x5773)] w6036 (by kernel_rfl) ?_
        exact W_nil (ob_end (.int .i64 x5773) [] rfl (by kernel_rfl) ⟨by kernel_rfl, rfl⟩ M6037)
      · intro g6009 f6010
        intro R w6040 M6041
        refine W_run 1 [(22, .int .i64 s5991.1)] w6040 (by kernel_rfl) ?_
        exact W_nil (ob_end (.int .i64 s5991.1) [] rfl (by kernel_rfl) ⟨by kernel_rfl, rfl⟩ M6041)
      · intro g6009 f6010
        intro v5_ hb5_
        obtain ⟨rfl, _⟩ := hb5_
        intro v6_ hb6_
        obtain ⟨rfl, _⟩ := hb6_
        intro R w6044 M6045
        refine W_run 1 [(23, .int .i64 (w64 (x5773 + s5991.1)))] w6044 (by kernel_rfl) ?_
        exact W_nil (ob_end (.int .i64 (w64 (x5773 + s5991.1))) [] rfl (by kernel_rfl) ⟨by kernel_rfl, rfl⟩ M6045)
      · intro g6009 f6010
        intro R w6048 M6049
        refine W_run 1 [(24, .slice p5768 s5991.2.length c5769)] w6048 (by kernel_rfl) ?_
        exact W_nil (ob_end (.slice p5768 s5991.2.length c5769) [] rfl (by kernel_rfl) ⟨by kernel_rfl, rfl⟩ M6049)
      · intro g6009 f6010
        intro R w6052 M6053
        refine W_run 1 [(25, .int .i64 x5773)] w6052 (by kernel_rfl) ?_
        exact W_nil (ob_end (.int .i64 x5773) [] rfl (by kernel_rfl) ⟨by kernel_rfl, rfl⟩ M6053)
      · intro g6009 f6010
        intro R w6056 M6057
        refine W_run 1 [(26, .int .i64 s5991.1)] w6056 (by kernel_rfl) ?_
        exact W_nil (ob_end (.int .i64 s5991.1) [] rfl (by kernel_rfl) ⟨by kernel_rfl, rfl⟩ M6057)
      · intro g6009 f6010
        intro v9_ hb9_
        obtain ⟨rfl, _⟩ := hb9_
        intro v10_ hb10_
        obtain ⟨rfl, _⟩ := hb10_
        intro R w6060 M6061
        refine W_run 1 [(27, .int .i64 (w64 (x5773 + s5991.1)))] w6060 (by kernel_rfl) ?_
        exact W_nil (ob_end (.int .i64 (w64 (x5773 + s5991.1))) [] rfl (by kernel_rfl) ⟨by kernel_rfl, rfl⟩ M6061)
      · intro g6009 f6010
        intro v8_ hb8_
        obtain ⟨rfl, _⟩ := hb8_
        intro v11_ hb11_
        obtain ⟨rfl, _⟩ := hb11_
        intro R w6064 M6065
        refine W_val (elemP p5768 ((w64 (x5773 + s5991.1)).toNat * 4)) w6064 (by kernel_rfl) (E_index (E := encRegion) _ _ _ s5991.2.length c5769 .i64 (w64 (x5773 + s5991.1)) 4 (y := y6011) rfl (by kernel_rfl) (by kernel_rfl) (by kernel_rfl) (ho6002.rd M6065 1 (by kernel_rfl)) rfl hy6011) ?_
        exact W_nil (ob_end (elemP p5768 ((w64 (x5773 + s5991.1)).toNat * 4)) [] rfl (by kernel_rfl) ⟨by kernel_rfl, rfl⟩ M6065)
      · intro g6009 f6010
        intro v12_ hb12_
        obtain ⟨rfl, _⟩ := hb12_
        intro R w6068 M6069
        refine W_val (.agg #[.int .i64 y6011.Base, .int .i64 y6011.Size, .int .i64 y6011.Kind, .int .i64 y6011.Unit]) w6068 (by kernel_rfl) (E_loadE (E := encRegion) _ _ true 4 (w64 (x5773 + s5991.1)) 0 ((w64 (x5773 + s5991.1)).toNat * 4) y6011 (.agg #[.int .i64 y6011.Base, .int .i64 y6011.Size, .int .i64 y6011.Kind, .int .i64 y6011.Unit]) rfl (by kernel_rfl) (by kernel_rfl) (by kernel_rfl) (ho6002.rd M6069 1 (by kernel_rfl)) hy6011 rfl) ?_
        exact W_nil (ob_end (.agg #[.int .i64 y6011.Base, .int .i64 y6011.Size, .int .i64 y6011.Kind, .int .i64 y6011.Unit]) [] rfl (by kernel_rfl) ⟨by kernel_rfl, rfl⟩ M6069)
      · intro g6009 f6010
        intro R w6072 M6073
        refine W_run 1 [(30, .slice p5768 s5991.2.length c5769)] w6072 (by kernel_rfl) ?_
        exact W_nil (ob_end (.slice p5768 s5991.2.length c5769) [] rfl (by kernel_rfl) ⟨by kernel_rfl, rfl⟩ M6073)
      · intro g6009 f6010
        intro R w6076 M6077
        refine W_run 1 [(31, .int .i64 x5772)] w6076 (by kernel_rfl) ?_
        exact W_nil (ob_end (.int .i64 x5772) [] rfl (by kernel_rfl) ⟨by kernel_rfl, rfl⟩ M6077)
      · intro g6009 f6010
        intro R w6080 M6081
        refine W_run 1 [(32, .int .i64 s5991.1)] w6080 (by kernel_rfl) ?_
        exact W_nil (ob_end (.int .i64 s5991.1) [] rfl (by kernel_rfl) ⟨by kernel_rfl, rfl⟩ M6081)
      · intro g6009 f6010
        intro v15_ hb15_
        obtain ⟨rfl, _⟩ := hb15_
        intro v16_ hb16_
        obtain ⟨rfl, _⟩ := hb16_
        intro R w6084 M6085
        refine W_run 1 [(33, .int .i64 (w64 (x5772 + s5991.1)))] w6084 (by kernel_rfl) ?_
        exact W_nil (ob_end (.int .i64 (w64 (x5772 + s5991.1))) [] rfl (by kernel_rfl) ⟨by kernel_rfl, rfl⟩ M6085)
      · intro g6009 f6010
        intro v14_ hb14_
        obtain ⟨rfl, _⟩ := hb14_
        intro v17_ hb17_
        obtain ⟨rfl, _⟩ := hb17_
        intro R w6088 M6089
        refine W_val (elemP p5768 ((w64 (x5772 + s5991.1)).toNat * 4)) w6088 (by kernel_rfl) (E_index (E := encRegion) _ _ _ s5991.2.length c5769 .i64 (w64 (x5772 + s5991.1)) 4 (y := y6012) rfl (by kernel_rfl) (by kernel_rfl) (by kernel_rfl) (ho6002.rd M6089 1 (by kernel_rfl)) rfl hy6012) ?_
        exact W_nil (ob_end (elemP p5768 ((w64 (x5772 + s5991.1)).toNat * 4)) [] rfl (by kernel_rfl) ⟨by kernel_rfl, rfl⟩ M6089)
      · intro g6009 f6010
        intro v18_ hb18_
        obtain ⟨rfl, _⟩ := hb18_
        intro R w6092 M6093
        refine W_val (.agg #[.int .i64 y6012.Base, .int .i64 y6012.Size, .int .i64 y6012.Kind, .int .i64 y6012.Unit]) w6092 (by kernel_rfl) (E_loadE (E := encRegion) _ _ true 4 (w64 (x5772 + s5991.1)) 0 ((w64 (x5772 + s5991.1)).toNat * 4) y6012 (.agg #[.int .i64 y6012.Base, .int .i64 y6012.Size, .int .i64 y6012.Kind, .int .i64 y6012.Unit]) rfl (by kernel_rfl) (by kernel_rfl) (by kernel_rfl) (ho6002.rd M6093 1 (by kernel_rfl)) hy6012 rfl) ?_
        exact W_nil (ob_end (.agg #[.int .i64 y6012.Base, .int .i64 y6012.Size, .int .i64 y6012.Kind, .int .i64 y6012.Unit]) [] rfl (by kernel_rfl) ⟨by kernel_rfl, rfl⟩ M6093)
      · intro g6009 f6010
        intro v0_ hb0_
        obtain ⟨rfl, _⟩ := hb0_
        intro v3_ hb3_
        obtain ⟨rfl, _⟩ := hb3_
        intro R w6096 M6097
        refine W_val (elemP p5768 ((w64 (x5772 + s5991.1)).toNat * 4)) w6096 (by kernel_rfl) (E_index (E := encRegion) _ _ _ s5991.2.length c5769 .i64 (w64 (x5772 + s5991.1)) 4 (y := y6013) rfl (by kernel_rfl) (by kernel_rfl) (by kernel_rfl) (ho6002.rd M6097 1 (by kernel_rfl)) rfl hy6013) ?_
        exact W_nil (ob_end (elemP p5768 ((w64 (x5772 + s5991.1)).toNat * 4)) [] rfl (by kernel_rfl) ⟨by kernel_rfl, rfl⟩ M6097)
      · intro g6009 f6010
        intro v13_ hb13_
        obtain ⟨rfl, _⟩ := hb13_
        intro v20_ hb20_
        obtain ⟨rfl, _⟩ := hb20_
        intro R w6100 M6101
        refine W_storeE (E := encRegion) _ _ _ true 4 (w64 (x5772 + s5991.1)).toNat 0 ((w64 (x5772 + s5991.1)).toNat * 4) y6013 y6011 (.agg #[.int .i64 y6011.Base, .int .i64 y6011.Size, .int .i64 y6011.Kind, .int .i64 y6011.Unit]) 0 M6101 ho6002 (by kernel_rfl) (by kernel_rfl) rfl (by kernel_rfl) (by kernel_rfl) (by kernel_rfl) (by kernel_rfl) (by kernel_rfl) (by kernel_rfl) (by kernel_rfl) (gxIdx_spec hy6013).2 rfl ?_
        intro w6102 sg6104 ho6105 M6103
        exact W_nil (ob_none sg6104 rfl ⟨rfl, ho6105⟩ M6103)
      · intro g6009 f6010
        intro v4_ hb4_
        obtain ⟨rfl, _⟩ := hb4_
        intro v7_ hb7_
        obtain ⟨rfl, _⟩ := hb7_
        intro v19_ hb19_
        obtain ⟨rfl, _⟩ := hb19_
        intro v21_ hb21_
        obtain ⟨rfl, ho6014⟩ := hb21_
        intro w6106 M6107
        have M6108 : Mem (idsOf [sg5770]) w w6106 [(g6009 21)] := M6107
        refine W_conv 0 (.slice p5768 s5991.2.length c5769) (.slice p5768 (s5991.2.set (w64 (x5772 + s5991.1)).toNat y6011).length c5769) (by kernel_rfl) (by rw [@List.length_set _ s5991.2 ((w64 (x5772 + s5991.1)).toNat) y6011]) ?_
        refine W_conv 20 (.slice p5768 s5991.2.length c5769) (.slice p5768 (s5991.2.set (w64 (x5772 + s5991.1)).toNat y6011).length c5769) (by kernel_rfl) (by rw [@List.length_set _ s5991.2 ((w64 (x5772 + s5991.1)).toNat) y6011]) ?_
        obtain ⟨y6109, hy6109, hm⟩ := gx_bind hm
        refine W_val (elemP p5768 ((w64 (x5773 + s5991.1)).toNat * 4)) w6106 (by kernel_rfl) (E_index (E := encRegion) _ _ _ (s5991.2.set (w64 (x5772 + s5991.1)).toNat y6011).length c5769 .i64 (w64 (x5773 + s5991.1)) 4 (y := y6109) rfl (by kernel_rfl) (by kernel_rfl) (by kernel_rfl) (ho6014.rd M6108 0 (by kernel_rfl)) rfl hy6109) ?_
        refine W_storeE (E := encRegion) _ _ _ true 4 (w64 (x5773 + s5991.1)).toNat 0 ((w64 (x5773 + s5991.1)).toNat * 4) y6109 y6012 (.agg #[.int .i64 y6012.Base, .int .i64 y6012.Size, .int .i64 y6012.Kind, .int .i64 y6012.Unit]) 0 M6108 ho6014 (by kernel_rfl) (by kernel_rfl) rfl (by kernel_rfl) (by kernel_rfl) (by kernel_rfl) (by kernel_rfl) (by kernel_rfl) (by kernel_rfl) (by kernel_rfl) (gxIdx_spec hy6109).2 rfl ?_
        intro w6110 sg6112 ho6113 M6111
        refine W_conv 0 (.slice p5768 (s5991.2.set (w64 (x5772 + s5991.1)).toNat y6011).length c5769) (.slice p5768 ((s5991.2.set (w64 (x5772 + s5991.1)).toNat y6011).set (w64 (x5773 + s5991.1)).toNat y6012).length c5769) (by kernel_rfl) (by rw [@List.length_set _ (s5991.2.set (w64 (x5772 + s5991.1)).toNat y6011) ((w64 (x5773 + s5991.1)).toNat) y6012]) ?_
        refine W_conv 20 (.slice p5768 (s5991.2.set (w64 (x5772 + s5991.1)).toNat y6011).length c5769) (.slice p5768 ((s5991.2.set (w64 (x5772 + s5991.1)).toNat y6011).set (w64 (x5773 + s5991.1)).toNat y6012).length c5769) (by kernel_rfl) (by rw [@List.length_set _ (s5991.2.set (w64 (x5772 + s5991.1)).toNat y6011) ((w64 (x5773 + s5991.1)).toNat) y6012]) ?_
        refine W_nil ?_
        refine N_block ?_
        refine N_then ?_
        refine G_region ?_
        refine W_run 3 [(0, .slice p5768 ((s5991.2.set (w64 (x5772 + s5991.1)).toNat y6011).set (w64 (x5773 + s5991.1)).toNat y6012).length c5769), (1, .int .i64 x5772), (2, .int .i64 x5773), (3, .int .i64 x5774), (10, .int .i64 (w64 (s5991.1 + 1)))] w6110 (by kernel_rfl) ?_
        refine W_nil ?_
        obtain rfl := Option.some.inj hm
        exact N_loop fun a ha => ⟨_, rfl, sg6112, ho6113, (List.length_set.trans (List.length_set.trans hl6003)), M6111.pick [0] (by kernel_rfl), ha.sub (by kernel_rfl)⟩
    · refine G_cond_f (b := (decide (s5991.1 < x5774))) hc6008 (by kernel_rfl) ?_
      refine G_exit ?_
      refine N_then_exit ?_
      refine N_then_exit ?_
      refine N_block_eq ?_
      obtain rfl := Option.some.inj hm
      obtain rfl := hout5993 _ rfl
      exact N_meet fun a ha => ⟨sg6001, ho6002, hl6003, M5996.pick [0] (by kernel_rfl), ha.sub (by kernel_rfl)⟩
  · intro a6114 w6115 ⟨sg6005, ho6006, hl6007, M6116, hS6117⟩
    refine N_use hS6117 ?_
    have hm := hmo6000
    obtain rfl := Option.some.inj hm
    refine N_end [] (RVs_nil) ?_
    exact ⟨sg6005, rfl, ho6006, hl6007, M6116.pick [0] (by kernel_rfl)⟩
theorem c_slices_rotateCmpFunc_98__i_asMap_1 (w : World) (x6119 : List Region) (p6121 : Option Addr) (c6122 : Nat) (sg6123 : Seg) (ho6124 : ownS encRegion x6119 p6121 c6122 sg6123) (x6125 : Int) (x6126 : Int) (x6127 : Int) (hA : ∀ q ∈ List.flatten [sg6123], w.heap[q.1]? = some q.2) (hN : (idsOf [sg6123]).Nodup) {r : (List Region)} (hm : M.slices_rotateCmpFunc_98__i_asMap_1 x6119 x6125 x6126 x6127 = some r) :
    Calls Try.prog 98 #[.slice p6121 x6119.length c6122, .int .i64 x6125, .int .i64 x6126, .int .i64 x6127, .func (.func 90) #[] #[]] w fun e w' => ∃ (sg6128 : Seg), e = .returned (.tuple #[]) ∧ ownS encRegion r p6121 c6122 sg6128 ∧ r.length = x6119.length ∧ Mem (idsOf [sg6123]) w w' [sg6128] := by
  unfold M.slices_rotateCmpFunc_98__i_asMap_1 at hm
  refine C_enter Try.func98 rfl (by kernel_rfl) ?_
  have M0 := Mem.start' w [sg6123] hA hN
  refine G_seq ?_
  refine G_region ?_
  refine W_run 4 [(0, .slice p6121 x6119.length c6122), (2, .int .i64 x6126), (3, .int .i64 x6127), (4, .func (.func 90) #[] #[]), (10, .int .i64 (w64 (x6126 - x6125)))] w (by kernel_rfl) ?_
  refine W_nil ?_
  refine N_then ?_
  refine G_seq ?_
  refine G_region ?_
  refine W_run 4 [(0, .slice p6121 x6119.length c6122), (2, .int .i64 x6126), (4, .func (.func 90) #[] #[]), (10, .int .i64 (w64 (x6126 - x6125))), (11, .int .i64 (w64 (x6127 - x6126)))] w (by kernel_rfl) ?_
  refine W_nil ?_
  refine N_then ?_
  refine G_seq ?_
  obtain ⟨out6221, hw6222, hmo6223⟩ := gx_bind hm
  refine G_meet (fun a w' => ∃ (sg6228 : Seg), ownS encRegion out6221.2 p6121 c6122 sg6228 ∧ out6221.2.length = x6119.length ∧ Mem (idsOf [sg6123]) w w' [sg6228] ∧ Sat Try.f98.ntmps [(0, .slice p6121 out6221.2.length c6122), (2, .int .i64 x6126), (4, .func (.func 90) #[] #[]), (10, .int .i64 out6221.1)] a) ?_ ?_
  · refine G_block ?_
    refine G_while (σ := Int × Int × List Region) (ρ := Int × List Region) (fun s6214 a w' => ∃ (sg6224 : Seg), ownS encRegion s6214.2.2 p6121 c6122 sg6224 ∧ s6214.2.2.length = x6119.length ∧ Mem (idsOf [sg6123]) w w' [sg6224] ∧ Sat Try.f98.ntmps [(0, .slice p6121 s6214.2.2.length c6122), (2, .int .i64 x6126), (4, .func (.func 90) #[] #[]), (10, .int .i64 s6214.1), (11, .int .i64 s6214.2.1)] a) hw6222 (fun a ha => ⟨sg6123, ho6124, rfl, M0.pick [0] (by kernel_rfl), ha.sub (by kernel_rfl)⟩) ?_
    clear hm
    intro s6214 x6215 hm hout6216 a6217 w6218 ⟨sg6224, ho6225, hl6226, M6219, hS6220⟩
    refine G_use hS6220 ?_
    refine G_seq ?_
    refine G_seq ?_
    refine G_region ?_
    refine W_run 3 [(0, .slice p6121 s6214.2.2.length c6122), (2, .int .i64 x6126), (4, .func (.func 90) #[] #[]), (10, .int .i64 s6214.1), (11, .int .i64 s6214.2.1), (20, .bool (s6214.1 != s6214.2.1))] w6218 (by kernel_rfl) ?_
    refine W_nil ?_
    refine N_then ?_
    rcases gx_bif hm with ⟨hc6231, hm⟩ | ⟨hc6231, hm⟩
    · refine G_cond_t (b := (s6214.1 != s6214.2.1)) hc6231 (by kernel_rfl) ?_
      refine G_skip ?_
      refine N_then ?_
      refine G_block ?_
      refine G_seq ?_
      refine G_region ?_
      refine W_run 3 [(0, .slice p6121 s6214.2.2.length c6122), (2, .int .i64 x6126), (4, .func (.func 90) #[] #[]), (10, .int .i64 s6214.1), (11, .int .i64 s6214.2.1), (23, .bool (decide (s6214.1 > s6214.2.1)))] w6218 (by kernel_rfl) ?_
      refine W_nil ?_
      refine N_then ?_
      obtain ⟨o6247, ho6248, hm6249⟩ := gx_bind hm
      refine G_meet (fun a w' => ∃ (sg6250 : Seg), ownS encRegion o6247.2.2 p6121 c6122 sg6250 ∧ o6247.2.2.length = x6119.length ∧ Mem (idsOf [sg6123]) w w' [sg6250] ∧ Sat Try.f98.ntmps [(0, .slice p6121 o6247.2.2.length c6122), (2, .int .i64 x6126), (4, .func (.func 90) #[] #[]), (10, .int .i64 o6247.1), (11, .int .i64 o6247.2.1)] a) ?_ ?_
      · have hm := ho6248
        rcases gx_bif hm with ⟨hc6253, hm⟩ | ⟨hc6253, hm⟩
        · refine G_cond_t (b := (decide (s6214.1 > s6214.2.1))) hc6253 (by kernel_rfl) ?_
          refine G_seq ?_
          refine G_region ?_
          refine W_run 7 [(0, .slice p6121 s6214.2.2.length c6122), (2, .int .i64 x6126), (4, .func (.func 90) #[] #[]), (10, .int .i64 s6214.1), (11, .int .i64 s6214.2.1), (24, .slice p6121 s6214.2.2.length c6122), (27, .int .i64 (w64 (x6126 - s6214.1))), (28, .int .i64 x6126), (29, .int .i64 s6214.2.1), (30, .func (.func 90) #[] #[])] w6218 (by kernel_rfl) ?_
          obtain ⟨r6254, hr6254, hm⟩ := gx_bind hm
          refine W_call 99 #[.slice p6121 s6214.2.2.length c6122, .int .i64 (w64 (x6126 - s6214.1)), .int .i64 x6126, .int .i64 s6214.2.1, .func (.func 90) #[] #[]] (by kernel_rfl) (by kernel_rfl) ?_
          refine (c_slices_swapRangeCmpFunc_99__i_asMap_1 w6218 s6214.2.2 p6121 c6122 sg6224 ho6225 (w64 (x6126 - s6214.1)) x6126 s6214.2.1 (M6219.hasPick [0]) (M6219.nodupPick [0] (by kernel_rfl)) hr6254).mono ?_
          rintro e_ w6258 ⟨sg6255, rfl, ho6256, hl6257, K6259⟩
          have M6260 := M6219.callF' [0] [] (by kernel_rfl) K6259
          refine ⟨_, rfl, ?_⟩
          refine W_conv 0 (.slice p6121 s6214.2.2.length c6122) (.slice p6121 r6254.length c6122) (by kernel_rfl) (by first | rw [hl6257] | rw [hl6257]) ?_
          refine W_conv 24 (.slice p6121 s6214.2.2.length c6122) (.slice p6121 r6254.length c6122) (by kernel_rfl) (by first | rw [hl6257] | rw [hl6257]) ?_
          refine W_nil ?_
          refine N_then ?_
          refine G_region ?_
          refine W_run 4 [(0, .slice p6121 r6254.length c6122), (2, .int .i64 x6126), (4, .func (.func 90) #[] #[]), (10, .int .i64 (w64 (s6214.1 - s6214.2.1))), (11, .int .i64 s6214.2.1)] w6258 (by kernel_rfl) ?_
          refine W_nil ?_
          obtain rfl := Option.some.inj hm
          exact N_meet fun a ha => ⟨sg6255, ho6256, (hl6257.trans hl6226), M6260.pick [0] (by kernel_rfl), ha.sub (by kernel_rfl)⟩
        · refine G_cond_f (b := (decide (s6214.1 > s6214.2.1))) hc6253 (by kernel_rfl) ?_
          refine G_seq ?_
          refine G_region ?_
          refine W_run 11 [(0, .slice p6121 s6214.2.2.length c6122), (2, .int .i64 x6126), (4, .func (.func 90) #[] #[]), (10, .int .i64 s6214.1), (11, .int .i64 s6214.2.1), (35, .slice p6121 s6214.2.2.length c6122), (38, .int .i64 (w64 (x6126 - s6214.1))), (43, .int .i64 (w64 ((w64 (x6126 + s6214.2.1)) - s6214.1))), (44, .int .i64 s6214.1), (45, .func (.func 90) #[] #[])] w6218 (by kernel_rfl) ?_
          obtain ⟨r6261, hr6261, hm⟩ := gx_bind hm
          refine W_call 99 #[.slice p6121 s6214.2.2.length c6122, .int .i64 (w64 (x6126 - s6214.1)), .int .i64 (w64 ((w64 (x6126 + s6214.2.1)) - s6214.1)), .int .i64 s6214.1, .func (.func 90) #[] #[]] (by kernel_rfl) (by kernel_rfl) ?_
          refine (c_slices_swapRangeCmpFunc_99__i_asMap_1 w6218 s6214.2.2 p6121 c6122 sg6224 ho6225 (w64 (x6126 - s6214.1)) (w64 ((w64 (x6126 + s6214.2.1)) - s6214.1)) s6214.1 (M6219.hasPick [0]) (M6219.nodupPick [0] (by kernel_rfl)) hr6261).mono ?_
          rintro e_ w6265 ⟨sg6262, rfl, ho6263, hl6264, K6266⟩
          have M6267 := M6219.callF' [0] [] (by kernel_rfl) K6266
          refine ⟨_, rfl, ?_⟩
          refine W_conv 0 (.slice p6121 s6214.2.2.length c6122) (.slice p6121 r6261.length c6122) (by kernel_rfl) (by first | rw [hl6264] | rw [hl6264]) ?_
          refine W_conv 35 (.slice p6121 s6214.2.2.length c6122) (.slice p6121 r6261.length c6122) (by kernel_rfl) (by first | rw [hl6264] | rw [hl6264]) ?_
          refine W_nil ?_
          refine N_then ?_
          refine G_region ?_
          refine W_run 4 [(0, .slice p6121 r6261.length c6122), (2, .int .i64 x6126), (4, .func (.func 90) #[] #[]), (10, .int .i64 s6214.1), (11, .int .i64 (w64 (s6214.2.1 - s6214.1)))] w6265 (by kernel_rfl) ?_
          refine W_nil ?_
          obtain rfl := Option.some.inj hm
          exact N_meet fun a ha => ⟨sg6262, ho6263, (hl6264.trans hl6226), M6267.pick [0] (by kernel_rfl), ha.sub (by kernel_rfl)⟩
      · intro a6270 w6268 ⟨sg6250, ho6251, hl6252, M6269, hS6271⟩
        refine N_use hS6271 ?_
        have hm := hm6249
        refine N_block ?_
        obtain rfl := Option.some.inj hm
        exact N_loop fun a ha => ⟨_, rfl, sg6250, ho6251, hl6252, M6269.pick [0] (by kernel_rfl), ha.sub (by kernel_rfl)⟩
    · refine G_cond_f (b := (s6214.1 != s6214.2.1)) hc6231 (by kernel_rfl) ?_
      refine G_exit ?_
      refine N_then_exit ?_
      refine N_then_exit ?_
      refine N_block_eq ?_
      obtain rfl := Option.some.inj hm
      obtain rfl := hout6216 _ rfl
      exact N_meet fun a ha => ⟨sg6224, ho6225, hl6226, M6219.pick [0] (by kernel_rfl), ha.sub (by kernel_rfl)⟩
  · intro a6272 w6273 ⟨sg6228, ho6229, hl6230, M6274, hS6275⟩
    refine N_use hS6275 ?_
    have hm := hmo6223
    refine N_then ?_
    refine G_region ?_
    refine W_run 7 [(50, .slice p6121 out6221.2.length c6122), (53, .int .i64 (w64 (x6126 - out6221.1))), (54, .int .i64 x6126), (55, .int .i64 out6221.1), (56, .func (.func 90) #[] #[])] w6273 (by kernel_rfl) ?_
    obtain ⟨r6276, hr6276, hm⟩ := gx_bind hm
    refine W_call 99 #[.slice p6121 out6221.2.length c6122, .int .i64 (w64 (x6126 - out6221.1)), .int .i64 x6126, .int .i64 out6221.1, .func (.func 90) #[] #[]] (by kernel_rfl) (by kernel_rfl) ?_
    refine (c_slices_swapRangeCmpFunc_99__i_asMap_1 w6273 out6221.2 p6121 c6122 sg6228 ho6229 (w64 (x6126 - out6221.1)) x6126 out6221.1 (M6274.hasPick [0]) (M6274.nodupPick [0] (by kernel_rfl)) hr6276).mono ?_
    rintro e_ w6280 ⟨sg6277, rfl, ho6278, hl6279, K6281⟩
    have M6282 := M6274.callF' [0] [] (by kernel_rfl) K6281
    refine ⟨_, rfl, ?_⟩
    refine W_conv 50 (.slice p6121 out6221.2.length c6122) (.slice p6121 r6276.length c6122) (by kernel_rfl) (by first | rw [hl6279] | rw [hl6279]) ?_
    refine W_nil ?_
    obtain rfl := Option.some.inj hm
    refine N_end [] (RVs_nil) ?_
    exact ⟨sg6277, rfl, ho6278, (hl6279.trans hl6230), M6282.pick [0] (by kernel_rfl)⟩
end Go.Proofs.Ytphinfkojhecdaa
