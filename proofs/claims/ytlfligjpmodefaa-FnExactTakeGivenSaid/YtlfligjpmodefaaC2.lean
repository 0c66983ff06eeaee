/- The walks, printed by program: whenever the model gives r, the call returns r. Part 2. -/
import Derived.Test.YtlfligjpmodefaaM
import Derived.Test.YtlfligjpmodefaaProg
import Derived.Test.YtlfligjpmodefaaSh
import Derived.Test.YtlfligjpmodefaaC1
set_option linter.unusedVariables false
set_option maxRecDepth 100000
set_option maxHeartbeats 4000000
namespace Go.Proofs.Ytlfligjpmodefaa
open Go.Gx
theorem c_l_FnExactGivenFrames (w : World) (x2435 : List Int) (p2437 : Option Addr) (c2438 : Nat) (h2439 : rdS Gx.encI w x2435 p2437 c2438) (x2440 : List Balloon) (p2442 : Option Addr) (c2443 : Nat) (h2444 : rdD deepBalloon w x2440 p2442 c2443) {r : Bool} (hm : M.l_FnExactGivenFrames x2435 x2440 = some r) :
    Calls Try.prog 4 #[.slice p2437 x2435.length c2438, .slice p2442 x2440.length c2443] w fun e w' => e = .returned (.bool r) ∧ Mem [] w w' [] := by
  unfold M.l_FnExactGivenFrames at hm
  refine C_enter Try.func4 rfl (by kernel_rfl) ?_
  have M0 := Mem.refl [] w
  refine G_seq ?_
  refine G_region ?_
  refine W_run 1 [(0, .slice p2437 x2435.length c2438), (1, .slice p2442 x2440.length c2443)] w (by kernel_rfl) ?_
  refine W_nil ?_
  refine N_then ?_
  refine G_seq ?_
  refine G_seq ?_
  refine G_region ?_
  refine W_run 3 [(0, .slice p2437 x2435.length c2438), (1, .slice p2442 x2440.length c2443), (16, .bool (decide ((x2435.length : Int) > 1048576)))] w (by kernel_rfl) ?_
  refine W_nil ?_
  refine N_then ?_
  rcases gx_bif hm with ⟨hc2445, hm⟩ | ⟨hc2445, hm⟩
  · refine G_cond_t (b := (decide ((x2435.length : Int) > 1048576))) hc2445 (by kernel_rfl) ?_
    refine G_seq ?_
    refine G_region ?_
    refine W_run 1 [(4, .bool true)] w (by kernel_rfl) ?_
    refine W_nil ?_
    refine N_then ?_
    refine G_ret ?_
    refine N_then_ret ?_
    obtain rfl := Option.some.inj hm
    refine N_ret [.bool true] (RVs_cons (RV_tmp (by kernel_rfl)) RVs_nil) ?_
    exact ⟨rfl, M0.pick [] (by kernel_rfl)⟩
  refine G_cond_f (b := (decide ((x2435.length : Int) > 1048576))) hc2445 (by kernel_rfl) ?_
  refine G_skip ?_
  refine N_then ?_
  refine G_seq ?_
  refine G_region ?_
  refine W_run 1 [(0, .slice p2437 x2435.length c2438), (1, .slice p2442 x2440.length c2443), (5, .int .i64 1048576)] w (by kernel_rfl) ?_
  refine W_nil ?_
  refine N_then ?_
  refine G_seq ?_
  refine G_region ?_
  refine W_run 2 [(0, .slice p2437 x2435.length c2438), (1, .slice p2442 x2440.length c2443), (5, .int .i64 1048576), (17, .slice p2442 x2440.length c2443), (18, .int .i64 1048576)] w (by kernel_rfl) ?_
  obtain ⟨r2446, hr2446, hm⟩ := gx_bind hm
  refine W_call 13 #[.slice p2442 x2440.length c2443, .int .i64 1048576] (by kernel_rfl) (by kernel_rfl) ?_
  refine (c_l_szBalloonS w x2440 p2442 c2443 (h2444.mem0 M0) 1048576 hr2446).mono ?_
  rintro e_ w2447 ⟨rfl, K2448⟩
  have M2449 := M0.call0 K2448
  refine ⟨_, rfl, ?_⟩
  refine W_run 1 [(0, .slice p2437 x2435.length c2438), (1, .slice p2442 x2440.length c2443), (5, .int .i64 r2446)] w2447 (by kernel_rfl) ?_
  refine W_nil ?_
  refine N_then ?_
  refine G_seq ?_
  refine G_seq ?_
  refine G_region ?_
  refine W_run 2 [(0, .slice p2437 x2435.length c2438), (1, .slice p2442 x2440.length c2443), (21, .bool (decide (r2446 < 0)))] w2447 (by kernel_rfl) ?_
  refine W_nil ?_
  refine N_then ?_
  rcases gx_bif hm with ⟨hc2450, hm⟩ | ⟨hc2450, hm⟩
  · refine G_cond_t (b := (decide (r2446 < 0))) hc2450 (by kernel_rfl) ?_
    refine G_seq ?_
    refine G_region ?_
    refine W_run 1 [(4, .bool true)] w2447 (by kernel_rfl) ?_
    refine W_nil ?_
    refine N_then ?_
    refine G_ret ?_
    refine N_then_ret ?_
    obtain rfl := Option.some.inj hm
    refine N_ret [.bool true] (RVs_cons (RV_tmp (by kernel_rfl)) RVs_nil) ?_
    exact ⟨rfl, M2449.pick [] (by kernel_rfl)⟩
  refine G_cond_f (b := (decide (r2446 < 0))) hc2450 (by kernel_rfl) ?_
  refine G_skip ?_
  refine N_then ?_
  refine G_seq ?_
  refine G_region ?_
  refine W_run 1 [(0, .slice p2437 x2435.length c2438), (1, .slice p2442 x2440.length c2443), (23, .slice p2437 x2435.length c2438)] w2447 (by kernel_rfl) ?_
  obtain ⟨r2451, hr2451, hm⟩ := gx_bind hm
  refine W_call 15 #[.slice p2437 x2435.length c2438] (by kernel_rfl) (by kernel_rfl) ?_
  refine (c_l_toIntS w2447 x2435 p2437 c2438 (h2439.mem0 M2449) hr2451).mono ?_
  rintro e_ w2457 ⟨p2453, c2454, sg2455, rfl, ho2456, K2458⟩
  have M2459 := M2449.call K2458
  refine ⟨_, rfl, ?_⟩
  refine W_run 1 [(0, .slice p2437 x2435.length c2438), (1, .slice p2442 x2440.length c2443), (24, .slice p2453 r2451.length c2454), (25, .slice p2442 x2440.length c2443)] w2457 (by kernel_rfl) ?_
  obtain ⟨r2460, hr2460, hm⟩ := gx_bind hm
  refine W_call 16 #[.slice p2442 x2440.length c2443] (by kernel_rfl) (by kernel_rfl) ?_
  refine (c_l_toBalloonS w2457 x2440 p2442 c2443 (h2444.mem0 M2459) hr2460).mono ?_
  rintro e_ w2467 ⟨p2462, c2463, sg2464, sg2465, rfl, ho2466, K2468⟩
  have M2469 := M2459.call K2468
  refine ⟨_, rfl, ?_⟩
  obtain ⟨r2572, hr2572, hm⟩ := gx_bind hm
  refine W_call 20 #[.slice p2453 r2451.length c2454, .slice p2462 r2460.length c2463] (by kernel_rfl) (by kernel_rfl) ?_
  refine (c_s_GivenFrames w2467 r2451 p2453 c2454 (ho2456.rd M2469 0 (by kernel_rfl)) r2460 p2462 c2463 (ho2466.rd M2469 1 (by kernel_rfl) 2 (by kernel_rfl)) hr2572).mono ?_
  rintro e_ w2573 ⟨rfl, K2574⟩
  have M2575 := M2469.call0 K2574
  refine ⟨_, rfl, ?_⟩
  refine W_run 7 [(0, .slice p2437 x2435.length c2438), (1, .slice p2442 x2440.length c2443), (6, .int .i64 r2572.1), (7, .int .i64 r2572.2.1), (8, .bool r2572.2.2)] w2573 (by kernel_rfl) ?_
  refine W_nil ?_
  refine N_then ?_
  refine G_seq ?_
  refine G_region ?_
  refine W_run 1 [(0, .slice p2437 x2435.length c2438), (1, .slice p2442 x2440.length c2443), (6, .int .i64 r2572.1), (7, .int .i64 r2572.2.1), (8, .bool r2572.2.2), (31, .slice p2437 x2435.length c2438)] w2573 (by kernel_rfl) ?_
  obtain ⟨r2576, hr2576, hm⟩ := gx_bind hm
  refine W_call 15 #[.slice p2437 x2435.length c2438] (by kernel_rfl) (by kernel_rfl) ?_
  refine (c_l_toIntS w2573 x2435 p2437 c2438 (h2439.mem0 M2575) hr2576).mono ?_
  rintro e_ w2582 ⟨p2578, c2579, sg2580, rfl, ho2581, K2583⟩
  have M2584 := M2575.call K2583
  refine ⟨_, rfl, ?_⟩
  refine W_run 1 [(0, .slice p2437 x2435.length c2438), (1, .slice p2442 x2440.length c2443), (6, .int .i64 r2572.1), (7, .int .i64 r2572.2.1), (8, .bool r2572.2.2), (9, .slice p2578 r2576.length c2579)] w2582 (by kernel_rfl) ?_
  refine W_nil ?_
  refine N_then ?_
  refine G_seq ?_
  refine G_region ?_
  refine W_run 1 [(0, .slice p2437 x2435.length c2438), (1, .slice p2442 x2440.length c2443), (6, .int .i64 r2572.1), (7, .int .i64 r2572.2.1), (8, .bool r2572.2.2), (9, .slice p2578 r2576.length c2579), (33, .slice p2442 x2440.length c2443)] w2582 (by kernel_rfl) ?_
  obtain ⟨r2585, hr2585, hm⟩ := gx_bind hm
  refine W_call 16 #[.slice p2442 x2440.length c2443] (by kernel_rfl) (by kernel_rfl) ?_
  refine (c_l_toBalloonS w2582 x2440 p2442 c2443 (h2444.mem0 M2584) hr2585).mono ?_
  rintro e_ w2592 ⟨p2587, c2588, sg2589, sg2590, rfl, ho2591, K2593⟩
  have M2594 := M2584.call K2593
  refine ⟨_, rfl, ?_⟩
  refine W_run 1 [(0, .slice p2437 x2435.length c2438), (1, .slice p2442 x2440.length c2443), (6, .int .i64 r2572.1), (7, .int .i64 r2572.2.1), (8, .bool r2572.2.2), (9, .slice p2578 r2576.length c2579), (10, .slice p2587 r2585.length c2588)] w2592 (by kernel_rfl) ?_
  refine W_nil ?_
  refine N_then ?_
  refine G_seq ?_
  refine G_region ?_
  refine W_run 2 [(0, .slice p2437 x2435.length c2438), (1, .slice p2442 x2440.length c2443), (6, .int .i64 r2572.1), (7, .int .i64 r2572.2.1), (8, .bool r2572.2.2), (9, .slice p2578 r2576.length c2579), (10, .slice p2587 r2585.length c2588), (36, .slice p2578 r2576.length c2579), (37, .slice p2587 r2585.length c2588)] w2592 (by kernel_rfl) ?_
  obtain ⟨r2673, hr2673, hm⟩ := gx_bind hm
  refine W_call 21 #[.slice p2578 r2576.length c2579, .slice p2587 r2585.length c2588] (by kernel_rfl) (by kernel_rfl) ?_
  refine (c_i_GivenFrames w2592 r2576 p2578 c2579 (ho2581.rd M2594 3 (by kernel_rfl)) r2585 p2587 c2588 (ho2591.rd M2594 4 (by kernel_rfl) 5 (by kernel_rfl)) hr2673).mono ?_
  rintro e_ w2674 ⟨rfl, K2675⟩
  have M2676 := M2594.call0 K2675
  refine ⟨_, rfl, ?_⟩
  refine W_run 7 [(0, .slice p2437 x2435.length c2438), (1, .slice p2442 x2440.length c2443), (6, .int .i64 r2572.1), (7, .int .i64 r2572.2.1), (8, .bool r2572.2.2), (9, .slice p2578 r2576.length c2579), (10, .slice p2587 r2585.length c2588), (11, .int .i64 r2673.1), (12, .int .i64 r2673.2.1), (13, .bool r2673.2.2)] w2674 (by kernel_rfl) ?_
  refine W_nil ?_
  refine N_then ?_
  refine G_seq ?_
  refine G_seq ?_
  obtain ⟨o2679, ho2680, hm2681⟩ := gx_bind hm
  refine G_meet (fun a w' => Mem [] w w' [sg2580, sg2589, sg2590] ∧ Sat Try.f4.ntmps [(0, .slice p2437 x2435.length c2438), (1, .slice p2442 x2440.length c2443), (9, .slice p2578 r2576.length c2579), (10, .slice p2587 r2585.length c2588), (54, .bool o2679)] a) ?_ ?_
  · have hm := ho2680
    refine G_region ?_
    refine W_run 4 [(0, .slice p2437 x2435.length c2438), (1, .slice p2442 x2440.length c2443), (7, .int .i64 r2572.2.1), (8, .bool r2572.2.2), (9, .slice p2578 r2576.length c2579), (10, .slice p2587 r2585.length c2588), (12, .int .i64 r2673.2.1), (13, .bool r2673.2.2), (45, .bool (r2673.1 != r2572.1))] w2674 (by kernel_rfl) ?_
    rcases gx_bif hm with ⟨hc2682, hm⟩ | ⟨hc2682, hm⟩
    · refine W_known 45 true (by kernel_rfl) hc2682 ?_
      refine W_run 9 [(0, .slice p2437 x2435.length c2438), (1, .slice p2442 x2440.length c2443), (9, .slice p2578 r2576.length c2579), (10, .slice p2587 r2585.length c2588), (54, .bool true)] w2674 (by kernel_rfl) ?_
      refine W_nil ?_
      obtain rfl := Option.some.inj hm
      exact N_meet fun a ha => ⟨M2676.pick [3, 4, 5] (by kernel_rfl), ha.sub (by kernel_rfl)⟩
    refine W_known 45 false (by kernel_rfl) hc2682 ?_
    refine W_run 5 [(0, .slice p2437 x2435.length c2438), (1, .slice p2442 x2440.length c2443), (8, .bool r2572.2.2), (9, .slice p2578 r2576.length c2579), (10, .slice p2587 r2585.length c2588), (13, .bool r2673.2.2), (50, .bool (r2673.2.1 != r2572.2.1))] w2674 (by kernel_rfl) ?_
    rcases gx_bif hm with ⟨hc2683, hm⟩ | ⟨hc2683, hm⟩
    · refine W_known 50 true (by kernel_rfl) hc2683 ?_
      refine W_run 4 [(0, .slice p2437 x2435.length c2438), (1, .slice p2442 x2440.length c2443), (9, .slice p2578 r2576.length c2579), (10, .slice p2587 r2585.length c2588), (54, .bool true)] w2674 (by kernel_rfl) ?_
      refine W_nil ?_
      obtain rfl := Option.some.inj hm
      exact N_meet fun a ha => ⟨M2676.pick [3, 4, 5] (by kernel_rfl), ha.sub (by kernel_rfl)⟩
    refine W_known 50 false (by kernel_rfl) hc2683 ?_
    refine W_run 4 [(0, .slice p2437 x2435.length c2438), (1, .slice p2442 x2440.length c2443), (9, .slice p2578 r2576.length c2579), (10, .slice p2587 r2585.length c2588), (54, .bool (!(r2673.2.2 == r2572.2.2)))] w2674 (by kernel_rfl) ?_
    refine W_nil ?_
    obtain rfl := Option.some.inj hm
    exact N_meet fun a ha => ⟨M2676.pick [3, 4, 5] (by kernel_rfl), ha.sub (by kernel_rfl)⟩
  intro a2686 w2684 ⟨M2685, hS2687⟩
  refine N_use hS2687 ?_
  have hm := hm2681
  refine N_then ?_
  rcases gx_bif hm with ⟨hc2688, hm⟩ | ⟨hc2688, hm⟩
  · refine G_cond_t (b := o2679) hc2688 (by kernel_rfl) ?_
    refine G_seq ?_
    refine G_region ?_
    refine W_run 1 [(4, .bool false)] w2684 (by kernel_rfl) ?_
    refine W_nil ?_
    refine N_then ?_
    refine G_ret ?_
    refine N_then_ret ?_
    obtain rfl := Option.some.inj hm
    refine N_ret [.bool false] (RVs_cons (RV_tmp (by kernel_rfl)) RVs_nil) ?_
    exact ⟨rfl, M2685.pick [] (by kernel_rfl)⟩
  refine G_cond_f (b := o2679) hc2688 (by kernel_rfl) ?_
  refine G_skip ?_
  refine N_then ?_
  refine G_seq ?_
  refine G_seq ?_
  refine G_region ?_
  refine W_run 2 [(1, .slice p2442 x2440.length c2443), (10, .slice p2587 r2585.length c2588), (55, .slice p2578 r2576.length c2579), (56, .slice p2437 x2435.length c2438)] w2684 (by kernel_rfl) ?_
  obtain ⟨r2689, hr2689, hm⟩ := gx_bind hm
  refine W_call 15 #[.slice p2437 x2435.length c2438] (by kernel_rfl) (by kernel_rfl) ?_
  refine (c_l_toIntS w2684 x2435 p2437 c2438 (h2439.mem0 M2685) hr2689).mono ?_
  rintro e_ w2695 ⟨p2691, c2692, sg2693, rfl, ho2694, K2696⟩
  have M2697 := M2685.call K2696
  refine ⟨_, rfl, ?_⟩
  obtain ⟨r2698, hr2698, hm⟩ := gx_bind hm
  refine W_call 18 #[.slice p2578 r2576.length c2579, .slice p2691 r2689.length c2692] (by kernel_rfl) (by kernel_rfl) ?_
  refine (c_l_eqIntS w2695 r2576 p2578 c2579 (ho2581.rd M2697 0 (by kernel_rfl)) r2689 p2691 c2692 (ho2694.rd M2697 3 (by kernel_rfl)) hr2698).mono ?_
  rintro e_ w2699 ⟨rfl, K2700⟩
  have M2701 := M2697.call0 K2700
  refine ⟨_, rfl, ?_⟩
  refine W_run 1 [(1, .slice p2442 x2440.length c2443), (10, .slice p2587 r2585.length c2588), (59, .bool (!r2698))] w2699 (by kernel_rfl) ?_
  refine W_nil ?_
  refine N_then ?_
  rcases gx_bif hm with ⟨hc2702, hm⟩ | ⟨hc2702, hm⟩
  · refine G_cond_t (b := (!r2698)) hc2702 (by kernel_rfl) ?_
    refine G_seq ?_
    refine G_region ?_
    refine W_run 1 [(4, .bool false)] w2699 (by kernel_rfl) ?_
    refine W_nil ?_
    refine N_then ?_
    refine G_ret ?_
    refine N_then_ret ?_
    obtain rfl := Option.some.inj hm
    refine N_ret [.bool false] (RVs_cons (RV_tmp (by kernel_rfl)) RVs_nil) ?_
    exact ⟨rfl, M2701.pick [] (by kernel_rfl)⟩
  refine G_cond_f (b := (!r2698)) hc2702 (by kernel_rfl) ?_
  refine G_skip ?_
  refine N_then ?_
  refine G_seq ?_
  refine G_seq ?_
  refine G_region ?_
  refine W_run 2 [(60, .slice p2587 r2585.length c2588), (61, .slice p2442 x2440.length c2443)] w2699 (by kernel_rfl) ?_
  obtain ⟨r2703, hr2703, hm⟩ := gx_bind hm
  refine W_call 16 #[.slice p2442 x2440.length c2443] (by kernel_rfl) (by kernel_rfl) ?_
  refine (c_l_toBalloonS w2699 x2440 p2442 c2443 (h2444.mem0 M2701) hr2703).mono ?_
  rintro e_ w2710 ⟨p2705, c2706, sg2707, sg2708, rfl, ho2709, K2711⟩
  have M2712 := M2701.call K2711
  refine ⟨_, rfl, ?_⟩
  obtain ⟨r2713, hr2713, hm⟩ := gx_bind hm
  refine W_call 19 #[.slice p2587 r2585.length c2588, .slice p2705 r2703.length c2706] (by kernel_rfl) (by kernel_rfl) ?_
  refine (c_l_eqBalloonS w2710 r2585 p2587 c2588 (ho2591.rd M2712 1 (by kernel_rfl) 2 (by kernel_rfl)) r2703 p2705 c2706 (ho2709.rd M2712 4 (by kernel_rfl) 5 (by kernel_rfl)) hr2713).mono ?_
  rintro e_ w2714 ⟨rfl, K2715⟩
  have M2716 := M2712.call0 K2715
  refine ⟨_, rfl, ?_⟩
  refine W_run 1 [(64, .bool (!r2713))] w2714 (by kernel_rfl) ?_
  refine W_nil ?_
  refine N_then ?_
  rcases gx_bif hm with ⟨hc2717, hm⟩ | ⟨hc2717, hm⟩
  · refine G_cond_t (b := (!r2713)) hc2717 (by kernel_rfl) ?_
    refine G_seq ?_
    refine G_region ?_
    refine W_run 1 [(4, .bool false)] w2714 (by kernel_rfl) ?_
    refine W_nil ?_
    refine N_then ?_
    refine G_ret ?_
    refine N_then_ret ?_
    obtain rfl := Option.some.inj hm
    refine N_ret [.bool false] (RVs_cons (RV_tmp (by kernel_rfl)) RVs_nil) ?_
    exact ⟨rfl, M2716.pick [] (by kernel_rfl)⟩
  refine G_cond_f (b := (!r2713)) hc2717 (by kernel_rfl) ?_
  refine G_skip ?_
  refine N_then ?_
  refine G_seq ?_
  refine G_region ?_
  refine W_run 1 [(4, .bool true)] w2714 (by kernel_rfl) ?_
  refine W_nil ?_
  refine N_then ?_
  refine G_ret ?_
  obtain rfl := Option.some.inj hm
  refine N_ret [.bool true] (RVs_cons (RV_tmp (by kernel_rfl)) RVs_nil) ?_
  exact ⟨rfl, M2716.pick [] (by kernel_rfl)⟩
theorem c_s_l18Find (w : World) (x2773 : List Balloon) (p2775 : Option Addr) (c2776 : Nat) (h2777 : rdD deepBalloon w x2773 p2775 c2776) (x2778 : Int) {r : Int} (hm : M.s_l18Find x2773 x2778 = some r) :
    Calls Try.prog 56 #[.slice p2775 x2773.length c2776, .int .i64 x2778] w fun e w' => e = .returned (.int .i64 r) ∧ Mem [] w w' [] := by
  unfold M.s_l18Find at hm
  refine C_enter Try.func56 rfl (by kernel_rfl) ?_
  have M0 := Mem.refl [] w
  refine G_seq ?_
  refine G_region ?_
  refine W_run 1 [(0, .slice p2775 x2773.length c2776), (1, .int .i64 x2778)] w (by kernel_rfl) ?_
  refine W_nil ?_
  refine N_then ?_
  refine G_seq ?_
  refine G_seq ?_
  refine G_region ?_
  refine W_run 1 [(0, .slice p2775 x2773.length c2776), (1, .int .i64 x2778), (5, .int .i64 0)] w (by kernel_rfl) ?_
  refine W_nil ?_
  refine N_then ?_
  obtain ⟨out2806, hw2807, hmo2808⟩ := gx_bind hm
  refine G_meet (fun a w' => ∃ (o2809 : Unit), out2806 = .inl o2809 ∧ Mem [] w w' [] ∧ Sat Try.f56.ntmps [] a) ?_ ?_
  · refine G_block ?_
    refine G_while (σ := Int) (ρ := (Unit) ⊕ (Int)) (fun s2799 a w' => Mem [] w w' [] ∧ Sat Try.f56.ntmps [(0, .slice p2775 x2773.length c2776), (1, .int .i64 x2778), (5, .int .i64 s2799)] a) hw2807 (fun a ha => ⟨M0.pick [] (by kernel_rfl), ha.sub (by kernel_rfl)⟩) ?_
    clear hm
    intro s2799 x2800 hm hout2801 a2802 w2803 ⟨M2804, hS2805⟩
    refine G_use hS2805 ?_
    refine G_seq ?_
    refine G_seq ?_
    refine G_region ?_
    refine W_run 4 [(0, .slice p2775 x2773.length c2776), (1, .int .i64 x2778), (5, .int .i64 s2799), (9, .bool (decide (s2799 < (x2773.length : Int))))] w2803 (by kernel_rfl) ?_
    refine W_nil ?_
    refine N_then ?_
    rcases gx_bif hm with ⟨hc2810, hm⟩ | ⟨hc2810, hm⟩
    · refine G_cond_t (b := (decide (s2799 < (x2773.length : Int)))) hc2810 (by kernel_rfl) ?_
      refine G_skip ?_
      refine N_then ?_
      refine G_seq ?_
      refine G_block ?_
      refine G_seq ?_
      refine G_region ?_
      refine W_run 2 [(0, .slice p2775 x2773.length c2776), (1, .int .i64 x2778), (5, .int .i64 s2799), (12, .slice p2775 x2773.length c2776), (13, .int .i64 s2799)] w2803 (by kernel_rfl) ?_
      obtain ⟨y2811, hy2811, hm⟩ := gx_bind hm
      obtain ⟨zs2812, hz2813, hr2814, hi2815⟩ := id h2777
      obtain ⟨g2816, hg2817⟩ := gxIdx_fst hz2813 hy2811
      refine W_val (elemP p2775 (s2799.toNat * 3)) w2803 (by kernel_rfl) (E_index (E := deepBalloon.E) _ _ _ x2773.length c2776 .i64 s2799 3 (y := (y2811, g2816)) rfl (by kernel_rfl) (by kernel_rfl) (by kernel_rfl) (hr2814.mem0 M2804) (len_fst hz2813) hg2817) ?_
      refine W_val (elemP p2775 (s2799.toNat * 3 + 0)) w2803 (by kernel_rfl) (E_fieldE (E := deepBalloon.E) _ _ 0 (s2799.toNat * 3) 0 rfl (by kernel_rfl) (by kernel_rfl) (hr2814.mem0 M2804) hg2817) ?_
      refine W_val (.int .i64 y2811.Guest) w2803 (by kernel_rfl) (E_loadE (E := deepBalloon.E) _ _ false 1 s2799 0 (s2799.toNat * 3 + 0) (y2811, g2816) (.int .i64 y2811.Guest) rfl (by kernel_rfl) (by kernel_rfl) (by kernel_rfl) (hr2814.mem0 M2804) hg2817 rfl) ?_
      refine W_run 2 [(0, .slice p2775 x2773.length c2776), (1, .int .i64 x2778), (5, .int .i64 s2799), (18, .bool (y2811.Guest == x2778))] w2803 (by kernel_rfl) ?_
      refine W_nil ?_
      refine N_then ?_
      rcases gx_bif hm with ⟨hc2819, hm⟩ | ⟨hc2819, hm⟩
      · refine G_cond_t (b := (y2811.Guest == x2778)) hc2819 (by kernel_rfl) ?_
        refine G_seq ?_
        refine G_region ?_
        refine W_run 2 [(4, .int .i64 s2799)] w2803 (by kernel_rfl) ?_
        refine W_nil ?_
        refine N_then ?_
        refine G_ret ?_
        refine N_block_ret ?_
        refine N_then_ret ?_
        refine N_then_ret ?_
        obtain rfl := Option.some.inj hm
        obtain rfl := hout2801 _ rfl
        have hm := hmo2808; simp only [Sum.elim_inr] at hm
        refine N_block_ret ?_
        refine N_meet_ret ?_
        refine N_then_ret ?_
        obtain rfl := Option.some.inj hm
        refine N_ret [.int .i64 s2799] (RVs_cons (RV_tmp (by kernel_rfl)) RVs_nil) ?_
        exact ⟨rfl, M2804.pick [] (by kernel_rfl)⟩
      refine G_cond_f (b := (y2811.Guest == x2778)) hc2819 (by kernel_rfl) ?_
      refine G_skip ?_
      refine N_block ?_
      refine N_then ?_
      refine G_region ?_
      refine W_run 3 [(0, .slice p2775 x2773.length c2776), (1, .int .i64 x2778), (5, .int .i64 (w64 (s2799 + 1)))] w2803 (by kernel_rfl) ?_
      refine W_nil ?_
      obtain rfl := Option.some.inj hm
      exact N_loop fun a ha => ⟨_, rfl, M2804.pick [] (by kernel_rfl), ha.sub (by kernel_rfl)⟩
    refine G_cond_f (b := (decide (s2799 < (x2773.length : Int)))) hc2810 (by kernel_rfl) ?_
    refine G_exit ?_
    refine N_then_exit ?_
    refine N_then_exit ?_
    refine N_block_eq ?_
    obtain rfl := Option.some.inj hm
    obtain rfl := hout2801 _ rfl
    exact N_meet fun a ha => ⟨_, rfl, M2804.pick [] (by kernel_rfl), ha.sub (by kernel_rfl)⟩
  intro a2820 w2821 ⟨o2809, hout_, M2822, hS2823⟩
  refine N_use hS2823 ?_
  subst hout_
  have hm := hmo2808; simp only [Sum.elim_inl] at hm
  refine N_then ?_
  refine G_seq ?_
  refine G_region ?_
  refine W_run 1 [(4, .int .i64 (-1))] w2821 (by kernel_rfl) ?_
  refine W_nil ?_
  refine N_then ?_
  refine G_ret ?_
  obtain rfl := Option.some.inj hm
  refine N_ret [.int .i64 (-1)] (RVs_cons (RV_tmp (by kernel_rfl)) RVs_nil) ?_
  exact ⟨rfl, M2822.pick [] (by kernel_rfl)⟩
theorem c_s_l1Own (w : World) (x2919 : List Int) (p2921 : Option Addr) (c2922 : Nat) (h2923 : rdS Gx.encI w x2919 p2921 c2922) {r : (List Int)} (hm : M.s_l1Own x2919 = some r) :
    Calls Try.prog 71 #[.slice p2921 x2919.length c2922] w fun e w' => ∃ (p2925 : Option Addr) (c2926 : Nat) (sg2927 : Seg), e = .returned (.slice p2925 r.length c2926) ∧ ownS Gx.encI r p2925 c2926 sg2927 ∧ Mem [] w w' [sg2927] := by
  unfold M.s_l1Own at hm
  refine C_enter Try.func71 rfl (by kernel_rfl) ?_
  have M0 := Mem.refl [] w
  refine G_seq ?_
  refine G_region ?_
  refine W_run 1 [(0, .slice p2921 x2919.length c2922)] w (by kernel_rfl) ?_
  refine W_nil ?_
  refine N_then ?_
  refine G_seq ?_
  refine G_region ?_
  refine W_lit (E := Gx.encI) ([] : List Int) 0 [] 3 M0 (by kernel_rfl) (by kernel_rfl) (by kernel_rfl) (by kernel_rfl) (by kernel_rfl) ?_
  intro p2929 c2930 sg2931 w2932 ho2933 M2934
  refine W_run 1 [(3, .slice p2929 ([] : List Int).length c2930), (4, .slice p2921 x2919.length c2922)] w2932 (by kernel_rfl) ?_
  obtain ⟨ap2936, hap2936, hm⟩ := gx_bind hm
  refine W_append (E := Gx.encI) _ _ _ 8 [.int .i64 0] 0 c2922 M2934 ho2933 (by kernel_rfl) (by kernel_rfl) (by kernel_rfl) rfl (by kernel_rfl) (by kernel_rfl) (by kernel_rfl) (by kernel_rfl) (by kernel_rfl) (by kernel_rfl) (h2923.mem0 M2934) hap2936 ?_
  intro p2937 c2938 sg2939 w2940 ho2941 M2942
  refine W_run 1 [(2, .slice p2937 ap2936.length c2938)] w2940 (by kernel_rfl) ?_
  refine W_nil ?_
  refine N_then ?_
  refine G_ret ?_
  obtain rfl := Option.some.inj hm
  refine N_ret [.slice p2937 ap2936.length c2938] (RVs_cons (RV_tmp (by kernel_rfl)) RVs_nil) ?_
  exact ⟨p2937, c2938, sg2939, rfl, ho2941, M2942.pick [0] (by kernel_rfl)⟩
theorem c_s_l18With (w : World) (x2873 : List Balloon) (p2875 : Option Addr) (c2876 : Nat) (h2877 : rdD deepBalloon w x2873 p2875 c2876) (x2878 : Int) (x2879 : Int) (x2880 : List Int) (p2882 : Option Addr) (c2883 : Nat) (h2884 : rdS Gx.encI w x2880 p2882 c2883) {r : (List Balloon)} (hm : M.s_l18With x2873 x2878 x2879 x2880 = some r) :
    Calls Try.prog 58 #[.slice p2875 x2873.length c2876, .int .i64 x2878, .int .i64 x2879, .slice p2882 x2880.length c2883] w fun e w' => ∃ (p2886 : Option Addr) (c2887 : Nat) (sg2888 : Seg) (sg2889 : Seg), e = .returned (.slice p2886 r.length c2887) ∧ ownD deepBalloon r p2886 c2887 sg2888 sg2889 ∧ Mem [] w w' [sg2888, sg2889] := by
  unfold M.s_l18With at hm
  refine C_enter Try.func58 rfl (by kernel_rfl) ?_
  have M0 := Mem.refl [] w
  refine G_seq ?_
  refine G_region ?_
  refine W_run 1 [(0, .slice p2875 x2873.length c2876), (1, .int .i64 x2878), (2, .int .i64 x2879), (3, .slice p2882 x2880.length c2883)] w (by kernel_rfl) ?_
  refine W_nil ?_
  refine N_then ?_
  refine G_seq ?_
  refine G_region ?_
  have M2891 : Mem [] w w [] := M0.pick [] (by kernel_rfl)
  have M2892 : Mem [] w w [[]] := M2891.regroup (by simp)
  refine W_litD (D := deepBalloon) [] ([] : List Balloon) rfl 0 [] 50 M2892 (by kernel_rfl) (by kernel_rfl) (by kernel_rfl) (by kernel_rfl) (by kernel_rfl) ownI_nil ?_
  intro p2893 c2894 sg2895 w2896 ho2897 M2898
  refine W_run 1 [(0, .slice p2875 x2873.length c2876), (1, .int .i64 x2878), (2, .int .i64 x2879), (3, .slice p2882 x2880.length c2883), (9, .slice p2893 ([] : List Balloon).length c2894)] w2896 (by kernel_rfl) ?_
  refine W_nil ?_
  refine N_then ?_
  refine G_seq ?_
  refine G_seq ?_
  refine G_region ?_
  refine W_run 1 [(0, .slice p2875 x2873.length c2876), (1, .int .i64 x2878), (2, .int .i64 x2879), (3, .slice p2882 x2880.length c2883), (9, .slice p2893 ([] : List Balloon).length c2894), (10, .int .i64 0)] w2896 (by kernel_rfl) ?_
  refine W_nil ?_
  refine N_then ?_
  obtain ⟨out3282, hw3283, hmo3284⟩ := gx_bind hm
  refine G_meet (fun a w' => ∃ (p3292 : Option Addr), ∃ (c3293 : Nat), ∃ (sg3294 : Seg), ∃ (sg3295 : Seg), ownD deepBalloon out3282 p3292 c3293 sg3294 sg3295 ∧ Mem [] w w' [sg3294, sg3295] ∧ Sat Try.f58.ntmps [(9, .slice p3292 out3282.length c3293)] a) ?_ ?_
  · refine G_block ?_
    refine G_while (σ := List Balloon × Int) (ρ := List Balloon) (fun s3275 a w' => ∃ (p3285 : Option Addr), ∃ (c3286 : Nat), ∃ (sg3287 : Seg), ∃ (sg3288 : Seg), ownD deepBalloon s3275.1 p3285 c3286 sg3287 sg3288 ∧ Mem [] w w' [sg3287, sg3288] ∧ Sat Try.f58.ntmps [(0, .slice p2875 x2873.length c2876), (1, .int .i64 x2878), (2, .int .i64 x2879), (3, .slice p2882 x2880.length c2883), (9, .slice p3285 s3275.1.length c3286), (10, .int .i64 s3275.2)] a) hw3283 (fun a ha => ⟨p2893, c2894, sg2895, [], ho2897, M2898.pick [1, 0] (by kernel_rfl), ha.sub (by kernel_rfl)⟩) ?_
    clear hm
    intro s3275 x3276 hm hout3277 a3278 w3279 ⟨p3285, c3286, sg3287, sg3288, ho3289, M3280, hS3281⟩
    refine G_use hS3281 ?_
    refine G_seq ?_
    refine G_seq ?_
    refine G_region ?_
    refine W_run 4 [(0, .slice p2875 x2873.length c2876), (1, .int .i64 x2878), (2, .int .i64 x2879), (3, .slice p2882 x2880.length c2883), (9, .slice p3285 s3275.1.length c3286), (10, .int .i64 s3275.2), (16, .bool (decide (s3275.2 < (x2873.length : Int))))] w3279 (by kernel_rfl) ?_
    refine W_nil ?_
    refine N_then ?_
    rcases gx_bif hm with ⟨hc3298, hm⟩ | ⟨hc3298, hm⟩
    · refine G_cond_t (b := (decide (s3275.2 < (x2873.length : Int)))) hc3298 (by kernel_rfl) ?_
      refine G_skip ?_
      refine N_then ?_
      refine G_seq ?_
      refine G_block ?_
      refine G_seq ?_
      obtain ⟨y3301, hy3301, hm⟩ := gx_bind hm
      obtain ⟨zs3302, hz3303, hr3304, hi3305⟩ := id h2877
      obtain ⟨g3306, hg3307⟩ := gxIdx_fst hz3303 hy3301
      obtain ⟨y3309, hy3309, hm⟩ := gx_bind hm
      obtain ⟨g3310, hg3311⟩ := gxIdx_fst hz3303 hy3309
      obtain ⟨y3313, hy3313, hm⟩ := gx_bind hm
      obtain ⟨g3314, hg3315⟩ := gxIdx_fst hz3303 hy3313
      obtain ⟨r3317, hr3317, hm⟩ := gx_bind hm
      refine G_sub [(0, .slice p2875 x2873.length c2876), (1, .int .i64 x2878), (2, .int .i64 x2879), (3, .slice p2882 x2880.length c2883), (9, .slice p3285 s3275.1.length c3286), (10, .int .i64 s3275.2), (16, .bool (decide (s3275.2 < (x2873.length : Int))))] (by kernel_rfl) ?_
      refine G_dagL 18 [[], [], [0, 1], [2], [3], [], [], [5, 6], [7], [8], [], [], [10, 11], [12], [13], [14], [4, 9], []] [[], [], [], [], [], [], [], [], [], [], [], [], [], [], [], [], [], []] [[], [], [], [], [], [], [], [], [], [], [], [], [], [], [], [], [], []] [[], [], [], [], [], [], [], [], [], [], [], [], [], [], [], [], [15], []] [[], [], [], [], [], [], [], [], [], [], [], [], [], [], [], [], [15], []] [[], [], [], [], [], [], [], [], [], [], [], [], [], [], [], [], [], []] (fun _ => []) (fun i => ([fun f v s => v = (.slice p2875 x2873.length c2876 : Value) ∧ s = [], fun f v s => v = (.int .i64 s3275.2 : Value) ∧ s = [], fun f v s => v = (elemP p2875 (s3275.2.toNat * 3) : Value) ∧ s = [], fun f v s => v = (elemP p2875 (s3275.2.toNat * 3 + 0) : Value) ∧ s = [], fun f v s => v = (.int .i64 y3301.Guest : Value) ∧ s = [], fun f v s => v = (.slice p2875 x2873.length c2876 : Value) ∧ s = [], fun f v s => v = (.int .i64 s3275.2 : Value) ∧ s = [], fun f v s => v = (elemP p2875 (s3275.2.toNat * 3) : Value) ∧ s = [], fun f v s => v = (elemP p2875 (s3275.2.toNat * 3 + 1) : Value) ∧ s = [], fun f v s => v = (.int .i64 y3309.Goal : Value) ∧ s = [], fun f v s => v = (.slice p2875 x2873.length c2876 : Value) ∧ s = [], fun f v s => v = (.int .i64 s3275.2 : Value) ∧ s = [], fun f v s => v = (elemP p2875 (s3275.2.toNat * 3) : Value) ∧ s = [], fun f v s => v = (elemP p2875 (s3275.2.toNat * 3 + 2) : Value) ∧ s = [], fun f v s => v = (.slice ((g3314 0).1) y3313.Gave.length ((g3314 0).2) : Value) ∧ s = [], fun f v s => ∃ (p3319 : Option Addr) (c3320 : Nat), v = (.slice p3319 r3317.length c3320 : Value) ∧ ownS Gx.encI r3317 p3319 c3320 s, fun f v s => v = (.agg #[.int .i64 y3301.Guest, .int .i64 y3309.Goal, (atPath (f 15) [])] : Value) ∧ s = [], fun f v s => ∃ (b3326 : Nat), v = (.pointer (some ⟨b3326, 0, none⟩) : Value) ∧ s = [(b3326, .cells ⟨[.int .i64 0, .int .i64 0, .slice none 0 0]⟩ 50 (0, 0))]] : List ((Nat → Value) → Value → Seg → Prop)).getD i (fun _ _ _ => False)) (fun j f v => ∃ s, (fun i => ([fun f v s => v = (.slice p2875 x2873.length c2876 : Value) ∧ s = [], fun f v s => v = (.int .i64 s3275.2 : Value) ∧ s = [], fun f v s => v = (elemP p2875 (s3275.2.toNat * 3) : Value) ∧ s = [], fun f v s => v = (elemP p2875 (s3275.2.toNat * 3 + 0) : Value) ∧ s = [], fun f v s => v = (.int .i64 y3301.Guest : Value) ∧ s = [], fun f v s => v = (.slice p2875 x2873.length c2876 : Value) ∧ s = [], fun f v s => v = (.int .i64 s3275.2 : Value) ∧ s = [], fun f v s => v = (elemP p2875 (s3275.2.toNat * 3) : Value) ∧ s = [], fun f v s => v = (elemP p2875 (s3275.2.toNat * 3 + 1) : Value) ∧ s = [], fun f v s => v = (.int .i64 y3309.Goal : Value) ∧ s = [], fun f v s => v = (.slice p2875 x2873.length c2876 : Value) ∧ s = [], fun f v s => v = (.int .i64 s3275.2 : Value) ∧ s = [], fun f v s => v = (elemP p2875 (s3275.2.toNat * 3) : Value) ∧ s = [], fun f v s => v = (elemP p2875 (s3275.2.toNat * 3 + 2) : Value) ∧ s = [], fun f v s => v = (.slice ((g3314 0).1) y3313.Gave.length ((g3314 0).2) : Value) ∧ s = [], fun f v s => ∃ (p3319 : Option Addr) (c3320 : Nat), v = (.slice p3319 r3317.length c3320 : Value) ∧ ownS Gx.encI r3317 p3319 c3320 s, fun f v s => v = (.agg #[.int .i64 y3301.Guest, .int .i64 y3309.Goal, (atPath (f 15) [])] : Value) ∧ s = [], fun f v s => ∃ (b3326 : Nat), v = (.pointer (some ⟨b3326, 0, none⟩) : Value) ∧ s = [(b3326, .cells ⟨[.int .i64 0, .int .i64 0, .slice none 0 0]⟩ 50 (0, 0))]] : List ((Nat → Value) → Value → Seg → Prop)).getD i (fun _ _ _ => False)) j f v s) [] [15, 16, 17] [15, 17] (fun _ _ _ s h => ⟨s, h⟩) (by kernel_rfl) (by kernel_rfl) (M3280.preNil 18) (by kernel_rfl) (by kernel_rfl) (by kernel_rfl) (by kernel_rfl) (allOb_cons ?_ (allOb_cons ?_ (allOb_cons ?_ (allOb_cons ?_ (allOb_cons ?_ (allOb_cons ?_ (allOb_cons ?_ (allOb_cons ?_ (allOb_cons ?_ (allOb_cons ?_ (allOb_cons ?_ (allOb_cons ?_ (allOb_cons ?_ (allOb_cons ?_ (allOb_cons ?_ (allOb_cons ?_ (allOb_cons ?_ (allOb_cons ?_ allOb_nil)))))))))))))))))) ?_
      · intro g3299 f3300
        intro R w3327 M3328
        refine W_run 1 [(19, .slice p2875 x2873.length c2876)] w3327 (by kernel_rfl) ?_
        exact W_nil (ob_end (.slice p2875 x2873.length c2876) [] rfl (by kernel_rfl) ⟨by kernel_rfl, rfl⟩ M3328)
      · intro g3299 f3300
        intro R w3331 M3332
        refine W_run 1 [(20, .int .i64 s3275.2)] w3331 (by kernel_rfl) ?_
        exact W_nil (ob_end (.int .i64 s3275.2) [] rfl (by kernel_rfl) ⟨by kernel_rfl, rfl⟩ M3332)
      · intro g3299 f3300
        intro v0_ hb0_
        obtain ⟨rfl, _⟩ := hb0_
        intro v1_ hb1_
        obtain ⟨rfl, _⟩ := hb1_
        intro R w3335 M3336
        refine W_val (elemP p2875 (s3275.2.toNat * 3)) w3335 (by kernel_rfl) (E_index (E := deepBalloon.E) _ _ _ x2873.length c2876 .i64 s3275.2 3 (y := (y3301, g3306)) rfl (by kernel_rfl) (by kernel_rfl) (by kernel_rfl) (hr3304.mem0 M3336) (len_fst hz3303) hg3307) ?_
        exact W_nil (ob_end (elemP p2875 (s3275.2.toNat * 3)) [] rfl (by kernel_rfl) ⟨by kernel_rfl, rfl⟩ M3336)
      · intro g3299 f3300
        intro v2_ hb2_
        obtain ⟨rfl, _⟩ := hb2_
        intro R w3339 M3340
        refine W_val (elemP p2875 (s3275.2.toNat * 3 + 0)) w3339 (by kernel_rfl) (E_fieldE (E := deepBalloon.E) _ _ 0 (s3275.2.toNat * 3) 0 rfl (by kernel_rfl) (by kernel_rfl) (hr3304.mem0 M3340) hg3307) ?_
        exact W_nil (ob_end (elemP p2875 (s3275.2.toNat * 3 + 0)) [] rfl (by kernel_rfl) ⟨by kernel_rfl, rfl⟩ M3340)
      · intro g3299 f3300
        intro v3_ hb3_
        obtain ⟨rfl, _⟩ := hb3_
        intro R w3343 M3344
        refine W_val (.int .i64 y3301.Guest) w3343 (by kernel_rfl) (E_loadE (E := deepBalloon.E) _ _ false 1 s3275.2 0 (s3275.2.toNat * 3 + 0) (y3301, g3306) (.int .i64 y3301.Guest) rfl (by kernel_rfl) (by kernel_rfl) (by kernel_rfl) (hr3304.mem0 M3344) hg3307 rfl) ?_
        exact W_nil (ob_end (.int .i64 y3301.Guest) [] rfl (by kernel_rfl) ⟨by kernel_rfl, rfl⟩ M3344)
      · intro g3299 f3300
        intro R w3347 M3348
        refine W_run 1 [(24, .slice p2875 x2873.length c2876)] w3347 (by kernel_rfl) ?_
        exact W_nil (ob_end (.slice p2875 x2873.length c2876) [] rfl (by kernel_rfl) ⟨by kernel_rfl, rfl⟩ M3348)
      · intro g3299 f3300
        intro R w3351 M3352
        refine W_run 1 [(25, .int .i64 s3275.2)] w3351 (by kernel_rfl) ?_
        exact W_nil (ob_end (.int .i64 s3275.2) [] rfl (by kernel_rfl) ⟨by kernel_rfl, rfl⟩ M3352)
      · intro g3299 f3300
        intro v5_ hb5_
        obtain ⟨rfl, _⟩ := hb5_
        intro v6_ hb6_
        obtain ⟨rfl, _⟩ := hb6_
        intro R w3355 M3356
        refine W_val (elemP p2875 (s3275.2.toNat * 3)) w3355 (by kernel_rfl) (E_index (E := deepBalloon.E) _ _ _ x2873.length c2876 .i64 s3275.2 3 (y := (y3309, g3310)) rfl (by kernel_rfl) (by kernel_rfl) (by kernel_rfl) (hr3304.mem0 M3356) (len_fst hz3303) hg3311) ?_
        exact W_nil (ob_end (elemP p2875 (s3275.2.toNat * 3)) [] rfl (by kernel_rfl) ⟨by kernel_rfl, rfl⟩ M3356)
      · intro g3299 f3300
        intro v7_ hb7_
        obtain ⟨rfl, _⟩ := hb7_
        intro R w3359 M3360
        refine W_val (elemP p2875 (s3275.2.toNat * 3 + 1)) w3359 (by kernel_rfl) (E_fieldE (E := deepBalloon.E) _ _ 1 (s3275.2.toNat * 3) 1 rfl (by kernel_rfl) (by kernel_rfl) (hr3304.mem0 M3360) hg3311) ?_
        exact W_nil (ob_end (elemP p2875 (s3275.2.toNat * 3 + 1)) [] rfl (by kernel_rfl) ⟨by kernel_rfl, rfl⟩ M3360)
      · intro g3299 f3300
        intro v8_ hb8_
        obtain ⟨rfl, _⟩ := hb8_
        intro R w3363 M3364
        refine W_val (.int .i64 y3309.Goal) w3363 (by kernel_rfl) (E_loadE (E := deepBalloon.E) _ _ false 1 s3275.2 1 (s3275.2.toNat * 3 + 1) (y3309, g3310) (.int .i64 y3309.Goal) rfl (by kernel_rfl) (by kernel_rfl) (by kernel_rfl) (hr3304.mem0 M3364) hg3311 rfl) ?_
        exact W_nil (ob_end (.int .i64 y3309.Goal) [] rfl (by kernel_rfl) ⟨by kernel_rfl, rfl⟩ M3364)
      · intro g3299 f3300
        intro R w3367 M3368
        refine W_run 1 [(29, .slice p2875 x2873.length c2876)] w3367 (by kernel_rfl) ?_
        exact W_nil (ob_end (.slice p2875 x2873.length c2876) [] rfl (by kernel_rfl) ⟨by kernel_rfl, rfl⟩ M3368)
      · intro g3299 f3300
        intro R w3371 M3372
        refine W_run 1 [(30, .int .i64 s3275.2)] w3371 (by kernel_rfl) ?_
        exact W_nil (ob_end (.int .i64 s3275.2) [] rfl (by kernel_rfl) ⟨by kernel_rfl, rfl⟩ M3372)
      · intro g3299 f3300
        intro v10_ hb10_
        obtain ⟨rfl, _⟩ := hb10_
        intro v11_ hb11_
        obtain ⟨rfl, _⟩ := hb11_
        intro R w3375 M3376
        refine W_val (elemP p2875 (s3275.2.toNat * 3)) w3375 (by kernel_rfl) (E_index (E := deepBalloon.E) _ _ _ x2873.length c2876 .i64 s3275.2 3 (y := (y3313, g3314)) rfl (by kernel_rfl) (by kernel_rfl) (by kernel_rfl) (hr3304.mem0 M3376) (len_fst hz3303) hg3315) ?_
        exact W_nil (ob_end (elemP p2875 (s3275.2.toNat * 3)) [] rfl (by kernel_rfl) ⟨by kernel_rfl, rfl⟩ M3376)
      · intro g3299 f3300
        intro v12_ hb12_
        obtain ⟨rfl, _⟩ := hb12_
        intro R w3379 M3380
        refine W_val (elemP p2875 (s3275.2.toNat * 3 + 2)) w3379 (by kernel_rfl) (E_fieldE (E := deepBalloon.E) _ _ 2 (s3275.2.toNat * 3) 2 rfl (by kernel_rfl) (by kernel_rfl) (hr3304.mem0 M3380) hg3315) ?_
        exact W_nil (ob_end (elemP p2875 (s3275.2.toNat * 3 + 2)) [] rfl (by kernel_rfl) ⟨by kernel_rfl, rfl⟩ M3380)
      · intro g3299 f3300
        intro v13_ hb13_
        obtain ⟨rfl, _⟩ := hb13_
        intro R w3383 M3384
        refine W_val (.slice ((g3314 0).1) y3313.Gave.length ((g3314 0).2)) w3383 (by kernel_rfl) (E_loadE (E := deepBalloon.E) _ _ false 1 s3275.2 2 (s3275.2.toNat * 3 + 2) (y3313, g3314) (.slice ((g3314 0).1) y3313.Gave.length ((g3314 0).2)) rfl (by kernel_rfl) (by kernel_rfl) (by kernel_rfl) (hr3304.mem0 M3384) hg3315 rfl) ?_
        exact W_nil (ob_end (.slice ((g3314 0).1) y3313.Gave.length ((g3314 0).2)) [] rfl (by kernel_rfl) ⟨by kernel_rfl, rfl⟩ M3384)
      · intro g3299 f3300
        intro v14_ hb14_
        obtain ⟨rfl, _⟩ := hb14_
        intro R w3387 M3388
        refine W_call 71 #[.slice ((g3314 0).1) y3313.Gave.length ((g3314 0).2)] (by kernel_rfl) (by kernel_rfl) ?_
        refine (c_s_l1Own w3387 y3313.Gave ((g3314 0).1) ((g3314 0).2) ((hi3305.mem0 M3388).at_ hg3315 0 ⟨Int, Gx.encI, y3313.Gave, (g3314 0).1, (g3314 0).2⟩ (by kernel_rfl)) hr3317).mono ?_
        rintro e_ w3389 ⟨p3319, c3320, sg3321, rfl, ho3322, K3391⟩
        refine ⟨_, rfl, ?_⟩
        exact W_nil (ob_end (.slice p3319 r3317.length c3320) sg3321 rfl (by kernel_rfl) ⟨p3319, c3320, rfl, ho3322⟩ (Mem.callMid M3388 K3391))
      · intro g3299 f3300
        intro v15_ hb15_
        obtain ⟨_, p3319, c3320, rfl, _⟩ := hb15_
        intro v4_ hb4_
        obtain ⟨rfl, _⟩ := hb4_
        intro v9_ hb9_
        obtain ⟨rfl, _⟩ := hb9_
        intro R w3392 M3393
        refine W_run 1 [(35, .agg #[.int .i64 y3301.Guest, .int .i64 y3309.Goal, .slice p3319 r3317.length c3320])] w3392 (by kernel_rfl) ?_
        exact W_nil (ob_end (.agg #[.int .i64 y3301.Guest, .int .i64 y3309.Goal, .slice p3319 r3317.length c3320]) [] rfl (by kernel_rfl) ⟨by kernel_rfl, rfl⟩ M3393)
      · intro g3299 f3300
        intro R w3396 M3397
        refine W_new (fun b => .pointer (some ⟨b, 0, none⟩)) (.cells ⟨[.int .i64 0, .int .i64 0, .slice none 0 0]⟩ 50 (0, 0)) M3397 rfl (by kernel_rfl) (by kernel_rfl) ?_
        intro b3326 w3398 M3399
        exact W_nil (ob_end (.pointer (some ⟨b3326, 0, none⟩)) [(b3326, .cells ⟨[.int .i64 0, .int .i64 0, .slice none 0 0]⟩ 50 (0, 0))] rfl (by kernel_rfl) ⟨b3326, rfl, rfl⟩ (Mem.mid M3399))
      intro g3299 f3300
      intro v15_ hb15_
      obtain ⟨p3319, c3320, rfl, ho3322⟩ := hb15_
      intro v16_ hb16_
      obtain ⟨hv16_, _⟩ := hb16_
      obtain rfl : v16_ = (.agg #[.int .i64 y3301.Guest, .int .i64 y3309.Goal, .slice p3319 r3317.length c3320] : Value) := hv16_.trans (by kernel_rfl)
      intro v17_ hb17_
      obtain ⟨b3326, rfl, hs17_⟩ := hb17_
      intro w3400 M3401
      have M3402 : Mem [] w w3400 [sg3287, sg3288, (g3299 15), (g3299 17)] := M3401
      rw [hs17_] at M3402
      refine W_store _ _ _ true 3 b3326 0 [.int .i64 0, .int .i64 0, .slice none 0 0] 50 (.agg #[.int .i64 y3301.Guest, .int .i64 y3309.Goal, .slice p3319 r3317.length c3320]) 3 [.int .i64 y3301.Guest, .int .i64 y3309.Goal, .slice p3319 r3317.length c3320] M3402 (by kernel_rfl) rfl (by kernel_rfl) (by kernel_rfl) (by kernel_rfl) (by kernel_rfl) (by kernel_rfl) (by kernel_rfl) (by kernel_rfl) (by kernel_rfl) ?_
      intro w3403 M3404
      refine W_nil ?_
      refine N_then ?_
      refine G_seq ?_
      refine G_seq ?_
      refine G_region ?_
      refine W_run 3 [(0, .slice p2875 x2873.length c2876), (1, .int .i64 x2878), (2, .int .i64 x2879), (3, .slice p2882 x2880.length c2883), (9, .slice p3285 s3275.1.length c3286), (10, .int .i64 s3275.2), (11, .pointer (some ⟨b3326, 0, none⟩)), (38, .bool (s3275.2 == x2878))] w3403 (by kernel_rfl) ?_
      refine W_nil ?_
      refine N_then ?_
      obtain ⟨o3419, ho3420, hm3421⟩ := gx_bind hm
      refine G_meet (fun a w' => ∃ (p3422 : Option Addr), ∃ (c3423 : Nat), ∃ (sg3424 : Seg), ownS Gx.encI o3419.2 p3422 c3423 sg3424 ∧ Mem [] w w' [sg3287, sg3288, [(b3326, .cells ⟨[.int .i64 y3301.Guest, .int .i64 o3419.1, .slice p3422 o3419.2.length c3423]⟩ 50 (0, 0))], sg3424] ∧ Sat Try.f58.ntmps [(0, .slice p2875 x2873.length c2876), (1, .int .i64 x2878), (2, .int .i64 x2879), (3, .slice p2882 x2880.length c2883), (9, .slice p3285 s3275.1.length c3286), (10, .int .i64 s3275.2), (11, .pointer (some ⟨b3326, 0, none⟩))] a) ?_ ?_
      · have hm := ho3420
        rcases gx_bif hm with ⟨hc3427, hm⟩ | ⟨hc3427, hm⟩
        · refine G_cond_t (b := (s3275.2 == x2878)) hc3427 (by kernel_rfl) ?_
          refine G_seq ?_
          refine G_region ?_
          refine W_run 2 [(0, .slice p2875 x2873.length c2876), (1, .int .i64 x2878), (2, .int .i64 x2879), (3, .slice p2882 x2880.length c2883), (9, .slice p3285 s3275.1.length c3286), (10, .int .i64 s3275.2), (11, .pointer (some ⟨b3326, 0, none⟩)), (39, .int .i64 x2879), (40, .pointer (some ⟨b3326, 1, none⟩))] w3403 (by kernel_rfl) ?_
          refine W_store _ _ _ false 1 b3326 1 [.int .i64 y3301.Guest, .int .i64 y3309.Goal, .slice p3319 r3317.length c3320] 50 (.int .i64 x2879) 3 [.int .i64 y3301.Guest, .int .i64 x2879, .slice p3319 r3317.length c3320] M3404 (by kernel_rfl) rfl (by kernel_rfl) (by kernel_rfl) (by kernel_rfl) (by kernel_rfl) (by kernel_rfl) (by kernel_rfl) (by kernel_rfl) (by kernel_rfl) ?_
          intro w3428 M3429
          refine W_nil ?_
          refine N_then ?_
          refine G_region ?_
          refine W_run 1 [(0, .slice p2875 x2873.length c2876), (1, .int .i64 x2878), (2, .int .i64 x2879), (3, .slice p2882 x2880.length c2883), (9, .slice p3285 s3275.1.length c3286), (10, .int .i64 s3275.2), (11, .pointer (some ⟨b3326, 0, none⟩)), (41, .slice p2882 x2880.length c2883)] w3428 (by kernel_rfl) ?_
          obtain ⟨r3430, hr3430, hm⟩ := gx_bind hm
          refine W_call 71 #[.slice p2882 x2880.length c2883] (by kernel_rfl) (by kernel_rfl) ?_
          refine (c_s_l1Own w3428 x2880 p2882 c2883 (h2884.mem0 M3429) hr3430).mono ?_
          rintro e_ w3436 ⟨p3432, c3433, sg3434, rfl, ho3435, K3437⟩
          have M3438 := M3429.call K3437
          refine ⟨_, rfl, ?_⟩
          refine W_run 1 [(0, .slice p2875 x2873.length c2876), (1, .int .i64 x2878), (2, .int .i64 x2879), (3, .slice p2882 x2880.length c2883), (9, .slice p3285 s3275.1.length c3286), (10, .int .i64 s3275.2), (11, .pointer (some ⟨b3326, 0, none⟩)), (42, .slice p3432 r3430.length c3433), (43, .pointer (some ⟨b3326, 2, none⟩))] w3436 (by kernel_rfl) ?_
          refine W_store _ _ _ false 1 b3326 2 [.int .i64 y3301.Guest, .int .i64 x2879, .slice p3319 r3317.length c3320] 50 (.slice p3432 r3430.length c3433) 3 [.int .i64 y3301.Guest, .int .i64 x2879, .slice p3432 r3430.length c3433] M3438 (by kernel_rfl) rfl (by kernel_rfl) (by kernel_rfl) (by kernel_rfl) (by kernel_rfl) (by kernel_rfl) (by kernel_rfl) (by kernel_rfl) (by kernel_rfl) ?_
          intro w3439 M3440
          refine W_nil ?_
          obtain rfl := Option.some.inj hm
          exact N_meet fun a ha => ⟨p3432, c3433, sg3434, ho3435, M3440.pick [0, 1, 3, 4] (by kernel_rfl), ha.sub (by kernel_rfl)⟩
        refine G_cond_f (b := (s3275.2 == x2878)) hc3427 (by kernel_rfl) ?_
        refine G_skip ?_
        obtain rfl := Option.some.inj hm
        exact N_meet fun a ha => ⟨p3319, c3320, (g3299 15), ho3322, M3404.pick [0, 1, 3, 2] (by kernel_rfl), ha.sub (by kernel_rfl)⟩
      intro a3443 w3441 ⟨p3422, c3423, sg3424, ho3425, M3442, hS3444⟩
      refine N_use hS3444 ?_
      have hm := hm3421
      refine N_then ?_
      refine G_region ?_
      refine W_run 1 [(0, .slice p2875 x2873.length c2876), (1, .int .i64 x2878), (2, .int .i64 x2879), (3, .slice p2882 x2880.length c2883), (9, .slice p3285 s3275.1.length c3286), (10, .int .i64 s3275.2), (11, .pointer (some ⟨b3326, 0, none⟩)), (44, .slice p3285 s3275.1.length c3286)] w3441 (by kernel_rfl) ?_
      refine W_val (.agg #[.int .i64 y3301.Guest, .int .i64 o3419.1, .slice p3422 o3419.2.length c3423]) w3441 (by kernel_rfl) (E_load (e := 50) (fr := (0, 0)) _ _ true 3 b3326 0 [.int .i64 y3301.Guest, .int .i64 o3419.1, .slice p3422 o3419.2.length c3423] (.agg #[.int .i64 y3301.Guest, .int .i64 o3419.1, .slice p3422 o3419.2.length c3423]) rfl (by kernel_rfl) (by kernel_rfl) (by kernel_rfl) (M3442.blk 2 (b := b3326) (o := .cells ⟨[.int .i64 y3301.Guest, .int .i64 o3419.1, .slice p3422 o3419.2.length c3423]⟩ 50 (0, 0)) (by kernel_rfl))) ?_
      have M3446 : Mem [] w w3441 [sg3287, sg3288, [(b3326, .cells ⟨[.int .i64 y3301.Guest, .int .i64 o3419.1, .slice p3422 o3419.2.length c3423]⟩ 50 (0, 0))], sg3424] := M3442.pick [0, 1, 2, 3] (by kernel_rfl)
      have M3447 : Mem [] w w3441 [sg3287, sg3288, [(b3326, .cells ⟨[.int .i64 y3301.Guest, .int .i64 o3419.1, .slice p3422 o3419.2.length c3423]⟩ 50 (0, 0))], (sg3424 ++ [])] := M3446.regroup (by simp)
      refine W_litD (D := deepBalloon) [((⟨y3301.Guest, o3419.1, o3419.2⟩ : Balloon), plOf [(p3422, c3423)])] [(⟨y3301.Guest, o3419.1, o3419.2⟩ : Balloon)] rfl 1 [.int .i64 y3301.Guest, .int .i64 o3419.1, .slice p3422 o3419.2.length c3423] 50 M3447 (by kernel_rfl) (by kernel_rfl) (by kernel_rfl) (by kernel_rfl) (by kernel_rfl) (ownI_cons (i := ⟨Int, Gx.encI, _, _, _⟩) ho3425 ownI_nil) ?_
      intro p3448 c3449 sg3450 w3451 ho3452 M3453
      obtain ⟨ap3455, hap3455, hm⟩ := gx_bind hm
      obtain ⟨zs3457, hz3458, hr3459, hi3460⟩ := id ho3452
      refine W_appendD (D := deepBalloon) (us := zs3457) (s2 := (sg3424 ++ [])) _ _ _ 40 [.int .i64 0, .int .i64 0, .slice none 0 0] 0 c3449 M3453 ho3289 (by kernel_rfl) (by kernel_rfl) (by kernel_rfl) rfl (by kernel_rfl) (by kernel_rfl) (by kernel_rfl) (by kernel_rfl) (by kernel_rfl) (by kernel_rfl) (hr3459.rd M3453 4 (by kernel_rfl)) hz3458 hi3460 hap3455 ?_
      intro p3461 c3462 sg3463 w3464 ho3465 M3466
      have M3467 : Mem [] w w3464 [sg3463, [(b3326, .cells ⟨[.int .i64 y3301.Guest, .int .i64 o3419.1, .slice p3422 o3419.2.length c3423]⟩ 50 (0, 0))], sg3450, sg3288, (sg3424 ++ [])] := M3466.pick [0, 2, 4, 1, 3] (by kernel_rfl)
      have M3468 : Mem [] w w3464 [sg3463, [(b3326, .cells ⟨[.int .i64 y3301.Guest, .int .i64 o3419.1, .slice p3422 o3419.2.length c3423]⟩ 50 (0, 0))], sg3450, (sg3288 ++ (sg3424 ++ []))] := M3467.regroup (by simp)
      refine W_run 1 [(0, .slice p2875 x2873.length c2876), (1, .int .i64 x2878), (2, .int .i64 x2879), (3, .slice p2882 x2880.length c2883), (9, .slice p3461 ap3455.length c3462), (10, .int .i64 s3275.2)] w3464 (by kernel_rfl) ?_
      refine W_nil ?_
      refine N_block ?_
      refine N_then ?_
      refine G_region ?_
      refine W_run 3 [(0, .slice p2875 x2873.length c2876), (1, .int .i64 x2878), (2, .int .i64 x2879), (3, .slice p2882 x2880.length c2883), (9, .slice p3461 ap3455.length c3462), (10, .int .i64 (w64 (s3275.2 + 1)))] w3464 (by kernel_rfl) ?_
      refine W_nil ?_
      obtain rfl := Option.some.inj hm
      exact N_loop fun a ha => ⟨_, rfl, p3461, c3462, sg3463, (sg3288 ++ (sg3424 ++ [])), ho3465, M3468.pick [0, 3] (by kernel_rfl), ha.sub (by kernel_rfl)⟩
    refine G_cond_f (b := (decide (s3275.2 < (x2873.length : Int)))) hc3298 (by kernel_rfl) ?_
    refine G_exit ?_
    refine N_then_exit ?_
    refine N_then_exit ?_
    refine N_block_eq ?_
    obtain rfl := Option.some.inj hm
    obtain rfl := hout3277 _ rfl
    exact N_meet fun a ha => ⟨p3285, c3286, sg3287, sg3288, ho3289, M3280.pick [0, 1] (by kernel_rfl), ha.sub (by kernel_rfl)⟩
  intro a3470 w3471 ⟨p3292, c3293, sg3294, sg3295, ho3296, M3472, hS3473⟩
  refine N_use hS3473 ?_
  have hm := hmo3284
  refine N_then ?_
  refine G_seq ?_
  refine G_region ?_
  refine W_run 2 [(8, .slice p3292 out3282.length c3293)] w3471 (by kernel_rfl) ?_
  refine W_nil ?_
  refine N_then ?_
  refine G_ret ?_
  obtain rfl := Option.some.inj hm
  refine N_ret [.slice p3292 out3282.length c3293] (RVs_cons (RV_tmp (by kernel_rfl)) RVs_nil) ?_
  exact ⟨p3292, c3293, sg3294, sg3295, rfl, ho3296, M3472.pick [0, 1] (by kernel_rfl)⟩
theorem c_s_SetGoal (w : World) (x2755 : List Int) (p2757 : Option Addr) (c2758 : Nat) (h2759 : rdS Gx.encI w x2755 p2757 c2758) (x2760 : List Balloon) (p2762 : Option Addr) (c2763 : Nat) (h2764 : rdD deepBalloon w x2760 p2762 c2763) (x2765 : Int) (x2766 : Int) {r : (List Balloon) × Bool} (hm : M.s_SetGoal x2755 x2760 x2765 x2766 = some r) :
    Calls Try.prog 22 #[.slice p2757 x2755.length c2758, .slice p2762 x2760.length c2763, .int .i64 x2765, .int .i64 x2766] w fun e w' => ∃ (p2768 : Option Addr) (c2769 : Nat) (sg2770 : Seg) (sg2771 : Seg), e = .returned (.tuple #[.slice p2768 r.1.length c2769, .bool r.2]) ∧ ownD deepBalloon r.1 p2768 c2769 sg2770 sg2771 ∧ Mem [] w w' [sg2770, sg2771] := by
  unfold M.s_SetGoal at hm
  refine C_enter Try.func22 rfl (by kernel_rfl) ?_
  have M0 := Mem.refl [] w
  refine G_seq ?_
  refine G_region ?_
  refine W_run 2 [(0, .slice p2757 x2755.length c2758), (1, .slice p2762 x2760.length c2763), (2, .int .i64 x2765), (3, .int .i64 x2766)] w (by kernel_rfl) ?_
  refine W_nil ?_
  refine N_then ?_
  refine G_seq ?_
  refine G_region ?_
  refine W_run 2 [(0, .slice p2757 x2755.length c2758), (1, .slice p2762 x2760.length c2763), (3, .int .i64 x2766), (11, .slice p2762 x2760.length c2763), (12, .int .i64 x2765)] w (by kernel_rfl) ?_
  obtain ⟨r2824, hr2824, hm⟩ := gx_bind hm
  refine W_call 56 #[.slice p2762 x2760.length c2763, .int .i64 x2765] (by kernel_rfl) (by kernel_rfl) ?_
  refine (c_s_l18Find w x2760 p2762 c2763 (h2764.mem0 M0) x2765 hr2824).mono ?_
  rintro e_ w2825 ⟨rfl, K2826⟩
  have M2827 := M0.call0 K2826
  refine ⟨_, rfl, ?_⟩
  refine W_run 1 [(0, .slice p2757 x2755.length c2758), (1, .slice p2762 x2760.length c2763), (3, .int .i64 x2766), (10, .int .i64 r2824)] w2825 (by kernel_rfl) ?_
  refine W_nil ?_
  refine N_then ?_
  refine G_seq ?_
  refine G_seq ?_
  obtain ⟨o2838, ho2839, hm2840⟩ := gx_bind hm
  refine G_meet (fun a w' => Mem [] w w' [] ∧ Sat Try.f22.ntmps [(1, .slice p2762 x2760.length c2763), (3, .int .i64 x2766), (10, .int .i64 r2824), (26, .bool o2838)] a) ?_ ?_
  · have hm := ho2839
    refine G_region ?_
    refine W_run 2 [(1, .slice p2762 x2760.length c2763), (3, .int .i64 x2766), (10, .int .i64 r2824), (14, .slice p2757 x2755.length c2758), (15, .slice p2762 x2760.length c2763)] w2825 (by kernel_rfl) ?_
    obtain ⟨r2841, hr2841, hm⟩ := gx_bind hm
    refine W_call 47 #[.slice p2757 x2755.length c2758, .slice p2762 x2760.length c2763] (by kernel_rfl) (by kernel_rfl) ?_
    refine (c_s_l18Good w2825 x2755 p2757 c2758 (h2759.mem0 M2827) x2760 p2762 c2763 (h2764.mem0 M2827) hr2841).mono ?_
    rintro e_ w2842 ⟨rfl, K2843⟩
    have M2844 := M2827.call0 K2843
    refine ⟨_, rfl, ?_⟩
    refine W_run 2 [(1, .slice p2762 x2760.length c2763), (3, .int .i64 x2766), (10, .int .i64 r2824), (18, .bool (!r2841))] w2842 (by kernel_rfl) ?_
    rcases gx_bif hm with ⟨hc2845, hm⟩ | ⟨hc2845, hm⟩
    · refine W_known 18 true (by kernel_rfl) hc2845 ?_
      refine W_run 8 [(1, .slice p2762 x2760.length c2763), (3, .int .i64 x2766), (10, .int .i64 r2824), (26, .bool true)] w2842 (by kernel_rfl) ?_
      refine W_nil ?_
      obtain rfl := Option.some.inj hm
      exact N_meet fun a ha => ⟨M2844.pick [] (by kernel_rfl), ha.sub (by kernel_rfl)⟩
    refine W_known 18 false (by kernel_rfl) hc2845 ?_
    refine W_run 4 [(1, .slice p2762 x2760.length c2763), (3, .int .i64 x2766), (10, .int .i64 r2824), (22, .bool (decide (r2824 < 0)))] w2842 (by kernel_rfl) ?_
    rcases gx_bif hm with ⟨hc2846, hm⟩ | ⟨hc2846, hm⟩
    · refine W_known 22 true (by kernel_rfl) hc2846 ?_
      refine W_run 4 [(1, .slice p2762 x2760.length c2763), (3, .int .i64 x2766), (10, .int .i64 r2824), (26, .bool true)] w2842 (by kernel_rfl) ?_
      refine W_nil ?_
      obtain rfl := Option.some.inj hm
      exact N_meet fun a ha => ⟨M2844.pick [] (by kernel_rfl), ha.sub (by kernel_rfl)⟩
    refine W_known 22 false (by kernel_rfl) hc2846 ?_
    refine W_run 1 [(1, .slice p2762 x2760.length c2763), (3, .int .i64 x2766), (10, .int .i64 r2824), (22, .bool false), (23, .int .i64 x2766)] w2842 (by kernel_rfl) ?_
    obtain ⟨r2847, hr2847, hm⟩ := gx_bind hm
    refine W_call 57 #[.int .i64 x2766, .int .i64 0, .int .i64 16] (by kernel_rfl) (by kernel_rfl) ?_
    refine (c_s_l1In w2842 x2766 0 16 hr2847).mono ?_
    rintro e_ w2848 ⟨rfl, K2849⟩
    have M2850 := M2844.call0 K2849
    refine ⟨_, rfl, ?_⟩
    refine W_run 2 [(1, .slice p2762 x2760.length c2763), (3, .int .i64 x2766), (10, .int .i64 r2824), (26, .bool (!r2847))] w2848 (by kernel_rfl) ?_
    refine W_nil ?_
    obtain rfl := Option.some.inj hm
    exact N_meet fun a ha => ⟨M2850.pick [] (by kernel_rfl), ha.sub (by kernel_rfl)⟩
  intro a2853 w2851 ⟨M2852, hS2854⟩
  refine N_use hS2854 ?_
  have hm := hm2840
  refine N_then ?_
  rcases gx_bif hm with ⟨hc2855, hm⟩ | ⟨hc2855, hm⟩
  · refine G_cond_t (b := o2838) hc2855 (by kernel_rfl) ?_
    refine G_seq ?_
    refine G_region ?_
    have M2856 : Mem [] w w2851 [] := M2852.pick [] (by kernel_rfl)
    have M2857 : Mem [] w w2851 [[]] := M2856.regroup (by simp)
    refine W_litD (D := deepBalloon) [] ([] : List Balloon) rfl 0 [] 50 M2857 (by kernel_rfl) (by kernel_rfl) (by kernel_rfl) (by kernel_rfl) (by kernel_rfl) ownI_nil ?_
    intro p2858 c2859 sg2860 w2861 ho2862 M2863
    refine W_run 2 [(8, .slice p2858 ([] : List Balloon).length c2859), (9, .bool false)] w2861 (by kernel_rfl) ?_
    refine W_nil ?_
    refine N_then ?_
    refine G_ret ?_
    refine N_then_ret ?_
    obtain rfl := Option.some.inj hm
    refine N_ret [.slice p2858 ([] : List Balloon).length c2859, .bool false] (RVs_cons (RV_tmp (by kernel_rfl)) (RVs_cons (RV_tmp (by kernel_rfl)) RVs_nil)) ?_
    exact ⟨p2858, c2859, sg2860, [], rfl, ho2862, M2863.pick [1, 0] (by kernel_rfl)⟩
  refine G_cond_f (b := o2838) hc2855 (by kernel_rfl) ?_
  refine G_skip ?_
  refine N_then ?_
  refine G_seq ?_
  refine G_region ?_
  refine W_run 5 [(28, .slice p2762 x2760.length c2763), (29, .int .i64 r2824), (30, .int .i64 x2766), (31, .slice p2762 x2760.length c2763), (32, .int .i64 r2824)] w2851 (by kernel_rfl) ?_
  obtain ⟨y2865, hy2865, hm⟩ := gx_bind hm
  obtain ⟨zs2866, hz2867, hr2868, hi2869⟩ := id h2764
  obtain ⟨g2870, hg2871⟩ := gxIdx_fst hz2867 hy2865
  refine W_val (elemP p2762 (r2824.toNat * 3)) w2851 (by kernel_rfl) (E_index (E := deepBalloon.E) _ _ _ x2760.length c2763 .i64 r2824 3 (y := (y2865, g2870)) rfl (by kernel_rfl) (by kernel_rfl) (by kernel_rfl) (hr2868.mem0 M2852) (len_fst hz2867) hg2871) ?_
  refine W_val (elemP p2762 (r2824.toNat * 3 + 2)) w2851 (by kernel_rfl) (E_fieldE (E := deepBalloon.E) _ _ 2 (r2824.toNat * 3) 2 rfl (by kernel_rfl) (by kernel_rfl) (hr2868.mem0 M2852) hg2871) ?_
  refine W_val (.slice ((g2870 0).1) y2865.Gave.length ((g2870 0).2)) w2851 (by kernel_rfl) (E_loadE (E := deepBalloon.E) _ _ false 1 r2824 2 (r2824.toNat * 3 + 2) (y2865, g2870) (.slice ((g2870 0).1) y2865.Gave.length ((g2870 0).2)) rfl (by kernel_rfl) (by kernel_rfl) (by kernel_rfl) (hr2868.mem0 M2852) hg2871 rfl) ?_
  obtain ⟨r3474, hr3474, hm⟩ := gx_bind hm
  refine W_call 58 #[.slice p2762 x2760.length c2763, .int .i64 r2824, .int .i64 x2766, .slice ((g2870 0).1) y2865.Gave.length ((g2870 0).2)] (by kernel_rfl) (by kernel_rfl) ?_
  refine (c_s_l18With w2851 x2760 p2762 c2763 (h2764.mem0 M2852) r2824 x2766 y2865.Gave ((g2870 0).1) ((g2870 0).2) ((hi2869.mem0 M2852).at_ hg2871 0 ⟨Int, Gx.encI, y2865.Gave, (g2870 0).1, (g2870 0).2⟩ (by kernel_rfl)) hr3474).mono ?_
  rintro e_ w3481 ⟨p3476, c3477, sg3478, sg3479, rfl, ho3480, K3482⟩
  have M3483 := M2852.call K3482
  refine ⟨_, rfl, ?_⟩
  refine W_run 2 [(8, .slice p3476 r3474.length c3477), (9, .bool true)] w3481 (by kernel_rfl) ?_
  refine W_nil ?_
  refine N_then ?_
  refine G_ret ?_
  obtain rfl := Option.some.inj hm
  refine N_ret [.slice p3476 r3474.length c3477, .bool true] (RVs_cons (RV_tmp (by kernel_rfl)) (RVs_cons (RV_tmp (by kernel_rfl)) RVs_nil)) ?_
  exact ⟨p3476, c3477, sg3478, sg3479, rfl, ho3480, M3483.pick [0, 1] (by kernel_rfl)⟩
theorem c_i_balloonOf_1 (w : World) (x3564 : Balloon) (p3566 : Option Addr) (c3567 : Nat) (h3568 : rdS Gx.encI w x3564.Gave p3566 c3567) (x3569 : Int) (b3570 : Nat) (hb3571 : w.heap[b3570]? = some (.cells ⟨[.int .i64 x3569]⟩ 3 (0, 0))) {r : Bool} (hm : M.i_balloonOf_1 x3564 x3569 = some r) :
    Calls Try.prog 86 #[.agg #[.int .i64 x3564.Guest, .int .i64 x3564.Goal, .slice p3566 x3564.Gave.length c3567], .pointer (some ⟨b3570, 0, none⟩)] w fun e w' => e = .returned (.bool r) ∧ Mem [] w w' [] := by
  unfold M.i_balloonOf_1 at hm
  refine C_enter Try.func86 rfl (by kernel_rfl) ?_
  have M0 := Mem.refl [] w
  refine G_seq ?_
  refine G_region ?_
  refine W_new (fun b => .pointer (some ⟨b, 0, none⟩)) (.cells ⟨[.int .i64 x3564.Guest, .int .i64 x3564.Goal, .slice p3566 x3564.Gave.length c3567]⟩ 50 (0, 0)) M0 rfl (by kernel_rfl) (by kernel_rfl) ?_
  intro b3574 w3575 M3576
  refine W_run 1 [(1, .pointer (some ⟨b3570, 0, none⟩)), (2, .pointer (some ⟨b3574, 0, none⟩))] w3575 (by kernel_rfl) ?_
  refine W_nil ?_
  refine N_then ?_
  refine G_seq ?_
  refine G_region ?_
  refine W_run 1 [(1, .pointer (some ⟨b3570, 0, none⟩)), (4, .pointer (some ⟨b3574, 0, none⟩))] w3575 (by kernel_rfl) ?_
  refine W_val (.int .i64 x3564.Guest) w3575 (by kernel_rfl) (E_load (e := 50) (fr := (0, 0)) _ _ false 1 b3574 0 [.int .i64 x3564.Guest, .int .i64 x3564.Goal, .slice p3566 x3564.Gave.length c3567] (.int .i64 x3564.Guest) rfl (by kernel_rfl) (by kernel_rfl) (by kernel_rfl) (M3576.blk 0 (b := b3574) (o := .cells ⟨[.int .i64 x3564.Guest, .int .i64 x3564.Goal, .slice p3566 x3564.Gave.length c3567]⟩ 50 (0, 0)) (by kernel_rfl))) ?_
  refine W_val (.int .i64 x3569) w3575 (by kernel_rfl) (E_load (e := 3) (fr := (0, 0)) _ _ false 1 b3570 0 [.int .i64 x3569] (.int .i64 x3569) rfl (by kernel_rfl) (by kernel_rfl) (by kernel_rfl) (M3576.ro hb3571)) ?_
  refine W_run 2 [(3, .bool (x3564.Guest == x3569))] w3575 (by kernel_rfl) ?_
  refine W_nil ?_
  refine N_then ?_
  refine G_ret ?_
  obtain rfl := Option.some.inj hm
  refine N_ret [.bool (x3564.Guest == x3569)] (RVs_cons (RV_tmp (by kernel_rfl)) RVs_nil) ?_
  exact ⟨rfl, M3576.pick [] (by kernel_rfl)⟩
theorem c_slices_IndexFunc_85__i_balloonOf_1 (w : World) (x3546 : List Balloon) (p3548 : Option Addr) (c3549 : Nat) (h3550 : rdD deepBalloon w x3546 p3548 c3549) (x3551 : Int) (b3552 : Nat) (hb3553 : w.heap[b3552]? = some (.cells ⟨[.int .i64 x3551]⟩ 3 (0, 0))) {r : Int} (hm : M.slices_IndexFunc_85__i_balloonOf_1 x3546 x3551 = some r) :
    Calls Try.prog 85 #[.slice p3548 x3546.length c3549, .func (.func 86) #[] #[.pointer (some ⟨b3552, 0, none⟩)]] w fun e w' => e = .returned (.int .i64 r) ∧ Mem [] w w' [] := by
  unfold M.slices_IndexFunc_85__i_balloonOf_1 at hm
  refine C_enter Try.func85 rfl (by kernel_rfl) ?_
  have M0 := Mem.refl [] w
  refine G_seq ?_
  refine G_region ?_
  refine W_run 1 [(0, .slice p3548 x3546.length c3549), (1, .func (.func 86) #[] #[.pointer (some ⟨b3552, 0, none⟩)])] w (by kernel_rfl) ?_
  refine W_nil ?_
  refine N_then ?_
  refine G_seq ?_
  refine G_seq ?_
  refine G_region ?_
  refine W_run 3 [(0, .slice p3548 x3546.length c3549), (1, .func (.func 86) #[] #[.pointer (some ⟨b3552, 0, none⟩)]), (7, .int .i64 (x3546.length : Int)), (8, .int .i64 0)] w (by kernel_rfl) ?_
  refine W_nil ?_
  refine N_then ?_
  obtain ⟨out3603, hw3604, hmo3605⟩ := gx_bind hm
  refine G_meet (fun a w' => ∃ (o3606 : Unit), out3603 = .inl o3606 ∧ Mem [] w w' [] ∧ Sat Try.f85.ntmps [] a) ?_ ?_
  · refine G_block ?_
    refine G_while (σ := Int) (ρ := (Unit) ⊕ (Int)) (fun s3596 a w' => Mem [] w w' [] ∧ Sat Try.f85.ntmps [(0, .slice p3548 x3546.length c3549), (1, .func (.func 86) #[] #[.pointer (some ⟨b3552, 0, none⟩)]), (7, .int .i64 (x3546.length : Int)), (8, .int .i64 s3596)] a) hw3604 (fun a ha => ⟨M0.pick [] (by kernel_rfl), ha.sub (by kernel_rfl)⟩) ?_
    clear hm
    intro s3596 x3597 hm hout3598 a3599 w3600 ⟨M3601, hS3602⟩
    refine G_use hS3602 ?_
    refine G_seq ?_
    refine G_region ?_
    refine W_run 1 [(0, .slice p3548 x3546.length c3549), (1, .func (.func 86) #[] #[.pointer (some ⟨b3552, 0, none⟩)]), (7, .int .i64 (x3546.length : Int)), (8, .int .i64 s3596), (9, .bool (decide (s3596 < (x3546.length : Int))))] w3600 (by kernel_rfl) ?_
    refine W_nil ?_
    refine N_then ?_
    refine G_seq ?_
    rcases gx_bif hm with ⟨hc3607, hm⟩ | ⟨hc3607, hm⟩
    · refine G_cond_t (b := (decide (s3596 < (x3546.length : Int)))) hc3607 (by kernel_rfl) ?_
      refine G_skip ?_
      refine N_then ?_
      refine G_seq ?_
      refine G_block ?_
      refine G_seq ?_
      refine G_region ?_
      refine W_run 2 [(0, .slice p3548 x3546.length c3549), (1, .func (.func 86) #[] #[.pointer (some ⟨b3552, 0, none⟩)]), (5, .int .i64 s3596), (7, .int .i64 (x3546.length : Int)), (8, .int .i64 s3596)] w3600 (by kernel_rfl) ?_
      refine W_nil ?_
      refine N_then ?_
      refine G_seq ?_
      refine G_region ?_
      refine W_run 3 [(0, .slice p3548 x3546.length c3549), (1, .func (.func 86) #[] #[.pointer (some ⟨b3552, 0, none⟩)]), (5, .int .i64 s3596), (7, .int .i64 (x3546.length : Int)), (8, .int .i64 s3596), (11, .func (.func 86) #[] #[.pointer (some ⟨b3552, 0, none⟩)]), (12, .slice p3548 x3546.length c3549), (13, .int .i64 s3596)] w3600 (by kernel_rfl) ?_
      obtain ⟨y3608, hy3608, hm⟩ := gx_bind hm
      obtain ⟨zs3609, hz3610, hr3611, hi3612⟩ := id h3550
      obtain ⟨g3613, hg3614⟩ := gxIdx_fst hz3610 hy3608
      refine W_val (elemP p3548 (s3596.toNat * 3)) w3600 (by kernel_rfl) (E_index (E := deepBalloon.E) _ _ _ x3546.length c3549 .i64 s3596 3 (y := (y3608, g3613)) rfl (by kernel_rfl) (by kernel_rfl) (by kernel_rfl) (hr3611.mem0 M3601) (len_fst hz3610) hg3614) ?_
      refine W_val (.agg #[.int .i64 y3608.Guest, .int .i64 y3608.Goal, .slice ((g3613 0).1) y3608.Gave.length ((g3613 0).2)]) w3600 (by kernel_rfl) (E_loadE (E := deepBalloon.E) _ _ true 3 s3596 0 (s3596.toNat * 3) (y3608, g3613) (.agg #[.int .i64 y3608.Guest, .int .i64 y3608.Goal, .slice ((g3613 0).1) y3608.Gave.length ((g3613 0).2)]) rfl (by kernel_rfl) (by kernel_rfl) (by kernel_rfl) (hr3611.mem0 M3601) hg3614 rfl) ?_
      obtain ⟨r3616, hr3616, hm⟩ := gx_bind hm
      refine W_call 86 #[.agg #[.int .i64 y3608.Guest, .int .i64 y3608.Goal, .slice ((g3613 0).1) y3608.Gave.length ((g3613 0).2)], .pointer (some ⟨b3552, 0, none⟩)] (by kernel_rfl) (by kernel_rfl) ?_
      refine (c_i_balloonOf_1 w3600 y3608 ((g3613 0).1) ((g3613 0).2) ((hi3612.mem0 M3601).at_ hg3614 0 ⟨Int, Gx.encI, y3608.Gave, (g3613 0).1, (g3613 0).2⟩ (by kernel_rfl)) x3551 b3552 (M3601.ro hb3553) hr3616).mono ?_
      rintro e_ w3617 ⟨rfl, K3618⟩
      have M3619 := M3601.call0 K3618
      refine ⟨_, rfl, ?_⟩
      refine W_nil ?_
      refine N_then ?_
      rcases gx_bif hm with ⟨hc3620, hm⟩ | ⟨hc3620, hm⟩
      · refine G_cond_t (b := r3616) hc3620 (by kernel_rfl) ?_
        refine G_seq ?_
        refine G_region ?_
        refine W_run 2 [(4, .int .i64 s3596)] w3617 (by kernel_rfl) ?_
        refine W_nil ?_
        refine N_then ?_
        refine G_ret ?_
        refine N_block_ret ?_
        refine N_then_ret ?_
        refine N_then_ret ?_
        obtain rfl := Option.some.inj hm
        obtain rfl := hout3598 _ rfl
        have hm := hmo3605; simp only [Sum.elim_inr] at hm
        refine N_block_ret ?_
        refine N_meet_ret ?_
        refine N_then_ret ?_
        obtain rfl := Option.some.inj hm
        refine N_ret [.int .i64 s3596] (RVs_cons (RV_tmp (by kernel_rfl)) RVs_nil) ?_
        exact ⟨rfl, M3619.pick [] (by kernel_rfl)⟩
      refine G_cond_f (b := r3616) hc3620 (by kernel_rfl) ?_
      refine G_skip ?_
      refine N_block ?_
      refine N_then ?_
      refine G_region ?_
      refine W_run 2 [(0, .slice p3548 x3546.length c3549), (1, .func (.func 86) #[] #[.pointer (some ⟨b3552, 0, none⟩)]), (7, .int .i64 (x3546.length : Int)), (8, .int .i64 (w64 (s3596 + 1)))] w3617 (by kernel_rfl) ?_
      refine W_nil ?_
      obtain rfl := Option.some.inj hm
      exact N_loop fun a ha => ⟨_, rfl, M3619.pick [] (by kernel_rfl), ha.sub (by kernel_rfl)⟩
    refine G_cond_f (b := (decide (s3596 < (x3546.length : Int)))) hc3607 (by kernel_rfl) ?_
    refine G_exit ?_
    refine N_then_exit ?_
    refine N_then_exit ?_
    refine N_block_eq ?_
    obtain rfl := Option.some.inj hm
    obtain rfl := hout3598 _ rfl
    exact N_meet fun a ha => ⟨_, rfl, M3601.pick [] (by kernel_rfl), ha.sub (by kernel_rfl)⟩
  intro a3621 w3622 ⟨o3606, hout_, M3623, hS3624⟩
  refine N_use hS3624 ?_
  subst hout_
  have hm := hmo3605; simp only [Sum.elim_inl] at hm
  refine N_then ?_
  refine G_seq ?_
  refine G_region ?_
  refine W_run 1 [(4, .int .i64 (-1))] w3622 (by kernel_rfl) ?_
  refine W_nil ?_
  refine N_then ?_
  refine G_ret ?_
  obtain rfl := Option.some.inj hm
  refine N_ret [.int .i64 (-1)] (RVs_cons (RV_tmp (by kernel_rfl)) RVs_nil) ?_
  exact ⟨rfl, M3623.pick [] (by kernel_rfl)⟩
theorem c_i_balloonOf (w : World) (x3531 : List Int) (p3533 : Option Addr) (c3534 : Nat) (h3535 : rdS Gx.encI w x3531 p3533 c3534) (x3536 : List Balloon) (p3538 : Option Addr) (c3539 : Nat) (h3540 : rdD deepBalloon w x3536 p3538 c3539) (x3541 : Int) {r : Int × Bool} (hm : M.i_balloonOf x3531 x3536 x3541 = some r) :
    Calls Try.prog 59 #[.slice p3533 x3531.length c3534, .slice p3538 x3536.length c3539, .int .i64 x3541] w fun e w' => e = .returned (.tuple #[.int .i64 r.1, .bool r.2]) ∧ Mem [] w w' [] := by
  unfold M.i_balloonOf at hm
  refine C_enter Try.func59 rfl (by kernel_rfl) ?_
  have M0 := Mem.refl [] w
  refine G_seq ?_
  refine G_region ?_
  refine W_new (fun b => .pointer (some ⟨b, 0, none⟩)) (.cells ⟨[.int .i64 x3541]⟩ 3 (0, 0)) M0 rfl (by kernel_rfl) (by kernel_rfl) ?_
  intro b3543 w3544 M3545
  refine W_run 2 [(0, .slice p3533 x3531.length c3534), (1, .slice p3538 x3536.length c3539), (5, .pointer (some ⟨b3543, 0, none⟩))] w3544 (by kernel_rfl) ?_
  refine W_nil ?_
  refine N_then ?_
  refine G_seq ?_
  refine G_region ?_
  refine W_run 2 [(0, .slice p3533 x3531.length c3534), (1, .slice p3538 x3536.length c3539), (9, .slice p3538 x3536.length c3539), (10, .func (.func 86) #[] #[.pointer (some ⟨b3543, 0, none⟩)])] w3544 (by kernel_rfl) ?_
  obtain ⟨r3625, hr3625, hm⟩ := gx_bind hm
  refine W_call 85 #[.slice p3538 x3536.length c3539, .func (.func 86) #[] #[.pointer (some ⟨b3543, 0, none⟩)]] (by kernel_rfl) (by kernel_rfl) ?_
  refine (c_slices_IndexFunc_85__i_balloonOf_1 w3544 x3536 p3538 c3539 (h3540.mem0 M3545) x3541 b3543 (M3545.blk 0 (b := b3543) (o := .cells ⟨[.int .i64 x3541]⟩ 3 (0, 0)) (by kernel_rfl)) hr3625).mono ?_
  rintro e_ w3626 ⟨rfl, K3627⟩
  have M3628 := M3545.call0 K3627
  refine ⟨_, rfl, ?_⟩
  refine W_run 1 [(0, .slice p3533 x3531.length c3534), (1, .slice p3538 x3536.length c3539), (8, .int .i64 r3625)] w3626 (by kernel_rfl) ?_
  refine W_nil ?_
  refine N_then ?_
  refine G_seq ?_
  obtain ⟨o3634, ho3635, hm3636⟩ := gx_bind hm
  refine G_meet (fun a w' => Mem [] w w' [] ∧ Sat Try.f59.ntmps [(6, .int .i64 o3634.1), (7, .bool o3634.2)] a) ?_ ?_
  · have hm := ho3635
    refine G_region ?_
    refine W_run 3 [(8, .int .i64 r3625), (12, .int .i64 r3625), (13, .slice p3533 x3531.length c3534), (14, .slice p3538 x3536.length c3539)] w3626 (by kernel_rfl) ?_
    obtain ⟨r3637, hr3637, hm⟩ := gx_bind hm
    refine W_call 17 #[.slice p3533 x3531.length c3534, .slice p3538 x3536.length c3539] (by kernel_rfl) (by kernel_rfl) ?_
    refine (c_i_AreBalloons w3626 x3531 p3533 c3534 (h3535.mem0 M3628) x3536 p3538 c3539 (h3540.mem0 M3628) hr3637).mono ?_
    rintro e_ w3638 ⟨rfl, K3639⟩
    have M3640 := M3628.call0 K3639
    refine ⟨_, rfl, ?_⟩
    refine W_run 1 [(8, .int .i64 r3625), (12, .int .i64 r3625), (16, .bool r3637)] w3638 (by kernel_rfl) ?_
    rcases gx_bif hm with ⟨hc3641, hm⟩ | ⟨hc3641, hm⟩
    · refine W_known 16 true (by kernel_rfl) hc3641 ?_
      refine W_run 5 [(6, .int .i64 r3625), (7, .bool (decide (r3625 ≥ 0)))] w3638 (by kernel_rfl) ?_
      refine W_nil ?_
      obtain rfl := Option.some.inj hm
      exact N_meet fun a ha => ⟨M3640.pick [] (by kernel_rfl), ha.sub (by kernel_rfl)⟩
    refine W_known 16 false (by kernel_rfl) hc3641 ?_
    refine W_run 5 [(6, .int .i64 r3625), (7, .bool false)] w3638 (by kernel_rfl) ?_
    refine W_nil ?_
    obtain rfl := Option.some.inj hm
    exact N_meet fun a ha => ⟨M3640.pick [] (by kernel_rfl), ha.sub (by kernel_rfl)⟩
  intro a3644 w3642 ⟨M3643, hS3645⟩
  refine N_use hS3645 ?_
  have hm := hm3636
  refine N_then ?_
  refine G_ret ?_
  obtain rfl := Option.some.inj hm
  refine N_ret [.int .i64 o3634.1, .bool o3634.2] (RVs_cons (RV_tmp (by kernel_rfl)) (RVs_cons (RV_tmp (by kernel_rfl)) RVs_nil)) ?_
  exact ⟨rfl, M3643.pick [] (by kernel_rfl)⟩
theorem c_i_copyInts (w : World) (x3705 : List Int) (p3707 : Option Addr) (c3708 : Nat) (h3709 : rdS Gx.encI w x3705 p3707 c3708) {r : (List Int)} (hm : M.i_copyInts x3705 = some r) :
    Calls Try.prog 62 #[.slice p3707 x3705.length c3708] w fun e w' => ∃ (p3711 : Option Addr) (c3712 : Nat) (sg3713 : Seg), e = .returned (.slice p3711 r.length c3712) ∧ ownS Gx.encI r p3711 c3712 sg3713 ∧ Mem [] w w' [sg3713] := by
  unfold M.i_copyInts at hm
  refine C_enter Try.func62 rfl (by kernel_rfl) ?_
  have M0 := Mem.refl [] w
  refine G_seq ?_
  refine G_region ?_
  refine W_run 1 [(0, .slice p3707 x3705.length c3708)] w (by kernel_rfl) ?_
  refine W_nil ?_
  refine N_then ?_
  refine G_seq ?_
  refine G_region ?_
  refine W_lit (E := Gx.encI) ([] : List Int) 0 [] 3 M0 (by kernel_rfl) (by kernel_rfl) (by kernel_rfl) (by kernel_rfl) (by kernel_rfl) ?_
  intro p3715 c3716 sg3717 w3718 ho3719 M3720
  refine W_run 1 [(3, .slice p3715 ([] : List Int).length c3716), (4, .slice p3707 x3705.length c3708)] w3718 (by kernel_rfl) ?_
  obtain ⟨ap3722, hap3722, hm⟩ := gx_bind hm
  refine W_append (E := Gx.encI) _ _ _ 8 [.int .i64 0] 0 c3708 M3720 ho3719 (by kernel_rfl) (by kernel_rfl) (by kernel_rfl) rfl (by kernel_rfl) (by kernel_rfl) (by kernel_rfl) (by kernel_rfl) (by kernel_rfl) (by kernel_rfl) (h3709.mem0 M3720) hap3722 ?_
  intro p3723 c3724 sg3725 w3726 ho3727 M3728
  refine W_run 1 [(2, .slice p3723 ap3722.length c3724)] w3726 (by kernel_rfl) ?_
  refine W_nil ?_
  refine N_then ?_
  refine G_ret ?_
  obtain rfl := Option.some.inj hm
  refine N_ret [.slice p3723 ap3722.length c3724] (RVs_cons (RV_tmp (by kernel_rfl)) RVs_nil) ?_
  exact ⟨p3723, c3724, sg3725, rfl, ho3727, M3728.pick [0] (by kernel_rfl)⟩
theorem c_i_newBalloons (w : World) (x3669 : List Balloon) (p3671 : Option Addr) (c3672 : Nat) (h3673 : rdD deepBalloon w x3669 p3671 c3672) {r : (List Balloon)} (hm : M.i_newBalloons x3669 = some r) :
    Calls Try.prog 60 #[.slice p3671 x3669.length c3672] w fun e w' => ∃ (p3675 : Option Addr) (c3676 : Nat) (sg3677 : Seg) (sg3678 : Seg), e = .returned (.slice p3675 r.length c3676) ∧ ownD deepBalloon r p3675 c3676 sg3677 sg3678 ∧ Mem [] w w' [sg3677, sg3678] := by
  unfold M.i_newBalloons at hm
  refine C_enter Try.func60 rfl (by kernel_rfl) ?_
  have M0 := Mem.refl [] w
  refine G_seq ?_
  refine G_region ?_
  refine W_run 1 [(0, .slice p3671 x3669.length c3672)] w (by kernel_rfl) ?_
  refine W_nil ?_
  refine N_then ?_
  refine G_seq ?_
  refine G_region ?_
  have M3680 : Mem [] w w [] := M0.pick [] (by kernel_rfl)
  have M3681 : Mem [] w w [[]] := M3680.regroup (by simp)
  refine W_litD (D := deepBalloon) [] ([] : List Balloon) rfl 0 [] 50 M3681 (by kernel_rfl) (by kernel_rfl) (by kernel_rfl) (by kernel_rfl) (by kernel_rfl) ownI_nil ?_
  intro p3682 c3683 sg3684 w3685 ho3686 M3687
  refine W_run 1 [(0, .slice p3671 x3669.length c3672), (3, .slice p3682 ([] : List Balloon).length c3683)] w3685 (by kernel_rfl) ?_
  refine W_nil ?_
  refine N_then ?_
  refine G_seq ?_
  refine G_seq ?_
  refine G_region ?_
  refine W_run 3 [(3, .slice p3682 ([] : List Balloon).length c3683), (7, .slice p3671 x3669.length c3672), (8, .int .i64 (x3669.length : Int)), (9, .int .i64 0)] w3685 (by kernel_rfl) ?_
  refine W_nil ?_
  refine N_then ?_
  obtain ⟨out3831, hw3832, hmo3833⟩ := gx_bind hm
  refine G_meet (fun a w' => ∃ (p3841 : Option Addr), ∃ (c3842 : Nat), ∃ (sg3843 : Seg), ∃ (sg3844 : Seg), ownD deepBalloon out3831 p3841 c3842 sg3843 sg3844 ∧ Mem [] w w' [sg3843, sg3844] ∧ Sat Try.f60.ntmps [(3, .slice p3841 out3831.length c3842)] a) ?_ ?_
  · refine G_block ?_
    refine G_while (σ := List Balloon × Int) (ρ := List Balloon) (fun s3824 a w' => ∃ (p3834 : Option Addr), ∃ (c3835 : Nat), ∃ (sg3836 : Seg), ∃ (sg3837 : Seg), ownD deepBalloon s3824.1 p3834 c3835 sg3836 sg3837 ∧ Mem [] w w' [sg3836, sg3837] ∧ Sat Try.f60.ntmps [(3, .slice p3834 s3824.1.length c3835), (7, .slice p3671 x3669.length c3672), (8, .int .i64 (x3669.length : Int)), (9, .int .i64 s3824.2)] a) hw3832 (fun a ha => ⟨p3682, c3683, sg3684, [], ho3686, M3687.pick [1, 0] (by kernel_rfl), ha.sub (by kernel_rfl)⟩) ?_
    clear hm
    intro s3824 x3825 hm hout3826 a3827 w3828 ⟨p3834, c3835, sg3836, sg3837, ho3838, M3829, hS3830⟩
    refine G_use hS3830 ?_
    refine G_seq ?_
    refine G_region ?_
    refine W_run 1 [(3, .slice p3834 s3824.1.length c3835), (7, .slice p3671 x3669.length c3672), (8, .int .i64 (x3669.length : Int)), (9, .int .i64 s3824.2), (10, .bool (decide (s3824.2 < (x3669.length : Int))))] w3828 (by kernel_rfl) ?_
    refine W_nil ?_
    refine N_then ?_
    refine G_seq ?_
    rcases gx_bif hm with ⟨hc3847, hm⟩ | ⟨hc3847, hm⟩
    · refine G_cond_t (b := (decide (s3824.2 < (x3669.length : Int)))) hc3847 (by kernel_rfl) ?_
      refine G_skip ?_
      refine N_then ?_
      refine G_seq ?_
      refine G_block ?_
      refine G_seq ?_
      refine G_region ?_
      obtain ⟨y3848, hy3848, hm⟩ := gx_bind hm
      obtain ⟨zs3849, hz3850, hr3851, hi3852⟩ := id h3673
      obtain ⟨g3853, hg3854⟩ := gxIdx_fst hz3850 hy3848
      refine W_val (elemP p3671 (s3824.2.toNat * 3)) w3828 (by kernel_rfl) (E_index (E := deepBalloon.E) _ _ _ x3669.length c3672 .i64 s3824.2 3 (y := (y3848, g3853)) rfl (by kernel_rfl) (by kernel_rfl) (by kernel_rfl) (hr3851.mem0 M3829) (len_fst hz3850) hg3854) ?_
      refine W_val (.agg #[.int .i64 y3848.Guest, .int .i64 y3848.Goal, .slice ((g3853 0).1) y3848.Gave.length ((g3853 0).2)]) w3828 (by kernel_rfl) (E_loadE (E := deepBalloon.E) _ _ true 3 s3824.2 0 (s3824.2.toNat * 3) (y3848, g3853) (.agg #[.int .i64 y3848.Guest, .int .i64 y3848.Goal, .slice ((g3853 0).1) y3848.Gave.length ((g3853 0).2)]) rfl (by kernel_rfl) (by kernel_rfl) (by kernel_rfl) (hr3851.mem0 M3829) hg3854 rfl) ?_
      refine W_new (fun b => .pointer (some ⟨b, 0, none⟩)) (.cells ⟨[.int .i64 0, .int .i64 0, .slice none 0 0]⟩ 50 (0, 0)) M3829 rfl (by kernel_rfl) (by kernel_rfl) ?_
      intro b3858 w3859 M3860
      refine W_store _ _ _ true 3 b3858 0 [.int .i64 0, .int .i64 0, .slice none 0 0] 50 (.agg #[.int .i64 y3848.Guest, .int .i64 y3848.Goal, .slice ((g3853 0).1) y3848.Gave.length ((g3853 0).2)]) 2 [.int .i64 y3848.Guest, .int .i64 y3848.Goal, .slice ((g3853 0).1) y3848.Gave.length ((g3853 0).2)] M3860 (by kernel_rfl) rfl (by kernel_rfl) (by kernel_rfl) (by kernel_rfl) (by kernel_rfl) (by kernel_rfl) (by kernel_rfl) (by kernel_rfl) (by kernel_rfl) ?_
      intro w3861 M3862
      refine W_nil ?_
      refine N_then ?_
      refine G_seq ?_
      refine G_region ?_
      refine W_run 1 [(3, .slice p3834 s3824.1.length c3835), (5, .pointer (some ⟨b3858, 0, none⟩)), (7, .slice p3671 x3669.length c3672), (8, .int .i64 (x3669.length : Int)), (9, .int .i64 s3824.2), (13, .pointer (some ⟨b3858, 2, none⟩))] w3861 (by kernel_rfl) ?_
      refine W_val (.slice ((g3853 0).1) y3848.Gave.length ((g3853 0).2)) w3861 (by kernel_rfl) (E_load (e := 50) (fr := (0, 0)) _ _ false 1 b3858 2 [.int .i64 y3848.Guest, .int .i64 y3848.Goal, .slice ((g3853 0).1) y3848.Gave.length ((g3853 0).2)] (.slice ((g3853 0).1) y3848.Gave.length ((g3853 0).2)) rfl (by kernel_rfl) (by kernel_rfl) (by kernel_rfl) (M3862.blk 2 (b := b3858) (o := .cells ⟨[.int .i64 y3848.Guest, .int .i64 y3848.Goal, .slice ((g3853 0).1) y3848.Gave.length ((g3853 0).2)]⟩ 50 (0, 0)) (by kernel_rfl))) ?_
      obtain ⟨r3863, hr3863, hm⟩ := gx_bind hm
      refine W_call 62 #[.slice ((g3853 0).1) y3848.Gave.length ((g3853 0).2)] (by kernel_rfl) (by kernel_rfl) ?_
      refine (c_i_copyInts w3861 y3848.Gave ((g3853 0).1) ((g3853 0).2) ((hi3852.mem0 M3862).at_ hg3854 0 ⟨Int, Gx.encI, y3848.Gave, (g3853 0).1, (g3853 0).2⟩ (by kernel_rfl)) hr3863).mono ?_
      rintro e_ w3869 ⟨p3865, c3866, sg3867, rfl, ho3868, K3870⟩
      have M3871 := M3862.call K3870
      refine ⟨_, rfl, ?_⟩
      refine W_run 1 [(3, .slice p3834 s3824.1.length c3835), (5, .pointer (some ⟨b3858, 0, none⟩)), (7, .slice p3671 x3669.length c3672), (8, .int .i64 (x3669.length : Int)), (9, .int .i64 s3824.2), (15, .slice p3865 r3863.length c3866), (16, .pointer (some ⟨b3858, 2, none⟩))] w3869 (by kernel_rfl) ?_
      refine W_store _ _ _ false 1 b3858 2 [.int .i64 y3848.Guest, .int .i64 y3848.Goal, .slice ((g3853 0).1) y3848.Gave.length ((g3853 0).2)] 50 (.slice p3865 r3863.length c3866) 2 [.int .i64 y3848.Guest, .int .i64 y3848.Goal, .slice p3865 r3863.length c3866] M3871 (by kernel_rfl) rfl (by kernel_rfl) (by kernel_rfl) (by kernel_rfl) (by kernel_rfl) (by kernel_rfl) (by kernel_rfl) (by kernel_rfl) (by kernel_rfl) ?_
      intro w3872 M3873
      refine W_nil ?_
      refine N_then ?_
      refine G_region ?_
      refine W_run 1 [(3, .slice p3834 s3824.1.length c3835), (5, .pointer (some ⟨b3858, 0, none⟩)), (7, .slice p3671 x3669.length c3672), (8, .int .i64 (x3669.length : Int)), (9, .int .i64 s3824.2), (17, .slice p3834 s3824.1.length c3835)] w3872 (by kernel_rfl) ?_
      refine W_val (.agg #[.int .i64 y3848.Guest, .int .i64 y3848.Goal, .slice p3865 r3863.length c3866]) w3872 (by kernel_rfl) (E_load (e := 50) (fr := (0, 0)) _ _ true 3 b3858 0 [.int .i64 y3848.Guest, .int .i64 y3848.Goal, .slice p3865 r3863.length c3866] (.agg #[.int .i64 y3848.Guest, .int .i64 y3848.Goal, .slice p3865 r3863.length c3866]) rfl (by kernel_rfl) (by kernel_rfl) (by kernel_rfl) (M3873.blk 2 (b := b3858) (o := .cells ⟨[.int .i64 y3848.Guest, .int .i64 y3848.Goal, .slice p3865 r3863.length c3866]⟩ 50 (0, 0)) (by kernel_rfl))) ?_
      have M3875 : Mem [] w w3872 [sg3836, sg3837, [(b3858, .cells ⟨[.int .i64 y3848.Guest, .int .i64 y3848.Goal, .slice p3865 r3863.length c3866]⟩ 50 (0, 0))], sg3867] := M3873.pick [0, 1, 2, 3] (by kernel_rfl)
      have M3876 : Mem [] w w3872 [sg3836, sg3837, [(b3858, .cells ⟨[.int .i64 y3848.Guest, .int .i64 y3848.Goal, .slice p3865 r3863.length c3866]⟩ 50 (0, 0))], (sg3867 ++ [])] := M3875.regroup (by simp)
      refine W_litD (D := deepBalloon) [((⟨y3848.Guest, y3848.Goal, r3863⟩ : Balloon), plOf [(p3865, c3866)])] [(⟨y3848.Guest, y3848.Goal, r3863⟩ : Balloon)] rfl 1 [.int .i64 y3848.Guest, .int .i64 y3848.Goal, .slice p3865 r3863.length c3866] 50 M3876 (by kernel_rfl) (by kernel_rfl) (by kernel_rfl) (by kernel_rfl) (by kernel_rfl) (ownI_cons (i := ⟨Int, Gx.encI, _, _, _⟩) ho3868 ownI_nil) ?_
      intro p3877 c3878 sg3879 w3880 ho3881 M3882
      obtain ⟨ap3884, hap3884, hm⟩ := gx_bind hm
      obtain ⟨zs3886, hz3887, hr3888, hi3889⟩ := id ho3881
      refine W_appendD (D := deepBalloon) (us := zs3886) (s2 := (sg3867 ++ [])) _ _ _ 40 [.int .i64 0, .int .i64 0, .slice none 0 0] 0 c3878 M3882 ho3838 (by kernel_rfl) (by kernel_rfl) (by kernel_rfl) rfl (by kernel_rfl) (by kernel_rfl) (by kernel_rfl) (by kernel_rfl) (by kernel_rfl) (by kernel_rfl) (hr3888.rd M3882 4 (by kernel_rfl)) hz3887 hi3889 hap3884 ?_
      intro p3890 c3891 sg3892 w3893 ho3894 M3895
      have M3896 : Mem [] w w3893 [sg3892, [(b3858, .cells ⟨[.int .i64 y3848.Guest, .int .i64 y3848.Goal, .slice p3865 r3863.length c3866]⟩ 50 (0, 0))], sg3879, sg3837, (sg3867 ++ [])] := M3895.pick [0, 2, 4, 1, 3] (by kernel_rfl)
      have M3897 : Mem [] w w3893 [sg3892, [(b3858, .cells ⟨[.int .i64 y3848.Guest, .int .i64 y3848.Goal, .slice p3865 r3863.length c3866]⟩ 50 (0, 0))], sg3879, (sg3837 ++ (sg3867 ++ []))] := M3896.regroup (by simp)
      refine W_run 1 [(3, .slice p3890 ap3884.length c3891), (7, .slice p3671 x3669.length c3672), (8, .int .i64 (x3669.length : Int)), (9, .int .i64 s3824.2)] w3893 (by kernel_rfl) ?_
      refine W_nil ?_
      refine N_block ?_
      refine N_then ?_
      refine G_region ?_
      refine W_run 2 [(3, .slice p3890 ap3884.length c3891), (7, .slice p3671 x3669.length c3672), (8, .int .i64 (x3669.length : Int)), (9, .int .i64 (w64 (s3824.2 + 1)))] w3893 (by kernel_rfl) ?_
      refine W_nil ?_
      obtain rfl := Option.some.inj hm
      exact N_loop fun a ha => ⟨_, rfl, p3890, c3891, sg3892, (sg3837 ++ (sg3867 ++ [])), ho3894, M3897.pick [0, 3] (by kernel_rfl), ha.sub (by kernel_rfl)⟩
    refine G_cond_f (b := (decide (s3824.2 < (x3669.length : Int)))) hc3847 (by kernel_rfl) ?_
    refine G_exit ?_
    refine N_then_exit ?_
    refine N_then_exit ?_
    refine N_block_eq ?_
    obtain rfl := Option.some.inj hm
    obtain rfl := hout3826 _ rfl
    exact N_meet fun a ha => ⟨p3834, c3835, sg3836, sg3837, ho3838, M3829.pick [0, 1] (by kernel_rfl), ha.sub (by kernel_rfl)⟩
  intro a3899 w3900 ⟨p3841, c3842, sg3843, sg3844, ho3845, M3901, hS3902⟩
  refine N_use hS3902 ?_
  have hm := hmo3833
  refine N_then ?_
  refine G_seq ?_
  refine G_region ?_
  refine W_run 2 [(2, .slice p3841 out3831.length c3842)] w3900 (by kernel_rfl) ?_
  refine W_nil ?_
  refine N_then ?_
  refine G_ret ?_
  obtain rfl := Option.some.inj hm
  refine N_ret [.slice p3841 out3831.length c3842] (RVs_cons (RV_tmp (by kernel_rfl)) RVs_nil) ?_
  exact ⟨p3841, c3842, sg3843, sg3844, rfl, ho3845, M3901.pick [0, 1] (by kernel_rfl)⟩
theorem c_i_SetGoal (w : World) (x3513 : List Int) (p3515 : Option Addr) (c3516 : Nat) (h3517 : rdS Gx.encI w x3513 p3515 c3516) (x3518 : List Balloon) (p3520 : Option Addr) (c3521 : Nat) (h3522 : rdD deepBalloon w x3518 p3520 c3521) (x3523 : Int) (x3524 : Int) {r : (List Balloon) × Bool} (hm : M.i_SetGoal x3513 x3518 x3523 x3524 = some r) :
    Calls Try.prog 23 #[.slice p3515 x3513.length c3516, .slice p3520 x3518.length c3521, .int .i64 x3523, .int .i64 x3524] w fun e w' => ∃ (p3526 : Option Addr) (c3527 : Nat) (sg3528 : Seg) (sg3529 : Seg), e = .returned (.tuple #[.slice p3526 r.1.length c3527, .bool r.2]) ∧ ownD deepBalloon r.1 p3526 c3527 sg3528 sg3529 ∧ Mem [] w w' [sg3528, sg3529] := by
  unfold M.i_SetGoal at hm
  refine C_enter Try.func23 rfl (by kernel_rfl) ?_
  have M0 := Mem.refl [] w
  refine G_seq ?_
  refine G_region ?_
  refine W_run 2 [(0, .slice p3515 x3513.length c3516), (1, .slice p3520 x3518.length c3521), (2, .int .i64 x3523), (3, .int .i64 x3524)] w (by kernel_rfl) ?_
  refine W_nil ?_
  refine N_then ?_
  refine G_seq ?_
  refine G_region ?_
  refine W_run 3 [(1, .slice p3520 x3518.length c3521), (3, .int .i64 x3524), (14, .slice p3515 x3513.length c3516), (15, .slice p3520 x3518.length c3521), (16, .int .i64 x3523)] w (by kernel_rfl) ?_
  obtain ⟨r3646, hr3646, hm⟩ := gx_bind hm
  refine W_call 59 #[.slice p3515 x3513.length c3516, .slice p3520 x3518.length c3521, .int .i64 x3523] (by kernel_rfl) (by kernel_rfl) ?_
  refine (c_i_balloonOf w x3513 p3515 c3516 (h3517.mem0 M0) x3518 p3520 c3521 (h3522.mem0 M0) x3523 hr3646).mono ?_
  rintro e_ w3647 ⟨rfl, K3648⟩
  have M3649 := M0.call0 K3648
  refine ⟨_, rfl, ?_⟩
  refine W_run 5 [(1, .slice p3520 x3518.length c3521), (3, .int .i64 x3524), (10, .int .i64 r3646.1), (11, .bool r3646.2)] w3647 (by kernel_rfl) ?_
  refine W_nil ?_
  refine N_then ?_
  refine G_seq ?_
  refine G_seq ?_
  obtain ⟨o3655, ho3656, hm3657⟩ := gx_bind hm
  refine G_meet (fun a w' => Mem [] w w' [] ∧ Sat Try.f23.ntmps [(1, .slice p3520 x3518.length c3521), (3, .int .i64 x3524), (10, .int .i64 r3646.1), (26, .bool o3655)] a) ?_ ?_
  · have hm := ho3656
    refine G_region ?_
    refine W_run 3 [(1, .slice p3520 x3518.length c3521), (3, .int .i64 x3524), (10, .int .i64 r3646.1), (22, .bool (!r3646.2))] w3647 (by kernel_rfl) ?_
    rcases gx_bif hm with ⟨hc3658, hm⟩ | ⟨hc3658, hm⟩
    · refine W_known 22 true (by kernel_rfl) hc3658 ?_
      refine W_run 4 [(1, .slice p3520 x3518.length c3521), (3, .int .i64 x3524), (10, .int .i64 r3646.1), (26, .bool true)] w3647 (by kernel_rfl) ?_
      refine W_nil ?_
      obtain rfl := Option.some.inj hm
      exact N_meet fun a ha => ⟨M3649.pick [] (by kernel_rfl), ha.sub (by kernel_rfl)⟩
    refine W_known 22 false (by kernel_rfl) hc3658 ?_
    refine W_run 1 [(1, .slice p3520 x3518.length c3521), (3, .int .i64 x3524), (10, .int .i64 r3646.1), (22, .bool false), (23, .int .i64 x3524)] w3647 (by kernel_rfl) ?_
    obtain ⟨r3659, hr3659, hm⟩ := gx_bind hm
    refine W_call 51 #[.int .i64 x3524] (by kernel_rfl) (by kernel_rfl) ?_
    refine (c_i_isGoal w3647 x3524 hr3659).mono ?_
    rintro e_ w3660 ⟨rfl, K3661⟩
    have M3662 := M3649.call0 K3661
    refine ⟨_, rfl, ?_⟩
    refine W_run 2 [(1, .slice p3520 x3518.length c3521), (3, .int .i64 x3524), (10, .int .i64 r3646.1), (26, .bool (!r3659))] w3660 (by kernel_rfl) ?_
    refine W_nil ?_
    obtain rfl := Option.some.inj hm
    exact N_meet fun a ha => ⟨M3662.pick [] (by kernel_rfl), ha.sub (by kernel_rfl)⟩
  intro a3665 w3663 ⟨M3664, hS3666⟩
  refine N_use hS3666 ?_
  have hm := hm3657
  refine N_then ?_
  rcases gx_bif hm with ⟨hc3667, hm⟩ | ⟨hc3667, hm⟩
  · refine G_cond_t (b := o3655) hc3667 (by kernel_rfl) ?_
    refine G_seq ?_
    refine G_region ?_
    refine W_run 2 [(8, .slice none 0 0), (9, .bool false)] w3663 (by kernel_rfl) ?_
    refine W_nil ?_
    refine N_then ?_
    refine G_ret ?_
    refine N_then_ret ?_
    obtain rfl := Option.some.inj hm
    refine N_ret [.slice none 0 0, .bool false] (RVs_cons (RV_tmp (by kernel_rfl)) (RVs_cons (RV_tmp (by kernel_rfl)) RVs_nil)) ?_
    exact ⟨none, 0, [], [], rfl, ownD_nil, M3664.pick [100000, 100001] (by kernel_rfl)⟩
  refine G_cond_f (b := o3655) hc3667 (by kernel_rfl) ?_
  refine G_skip ?_
  refine N_then ?_
  refine G_seq ?_
  refine G_region ?_
  refine W_run 1 [(3, .int .i64 x3524), (10, .int .i64 r3646.1), (27, .slice p3520 x3518.length c3521)] w3663 (by kernel_rfl) ?_
  obtain ⟨r3903, hr3903, hm⟩ := gx_bind hm
  refine W_call 60 #[.slice p3520 x3518.length c3521] (by kernel_rfl) (by kernel_rfl) ?_
  refine (c_i_newBalloons w3663 x3518 p3520 c3521 (h3522.mem0 M3664) hr3903).mono ?_
  rintro e_ w3910 ⟨p3905, c3906, sg3907, sg3908, rfl, ho3909, K3911⟩
  have M3912 := M3664.call K3911
  refine ⟨_, rfl, ?_⟩
  refine W_run 1 [(3, .int .i64 x3524), (10, .int .i64 r3646.1), (12, .slice p3905 r3903.length c3906)] w3910 (by kernel_rfl) ?_
  refine W_nil ?_
  refine N_then ?_
  refine G_seq ?_
  refine G_region ?_
  refine W_run 3 [(12, .slice p3905 r3903.length c3906), (29, .slice p3905 r3903.length c3906), (30, .int .i64 r3646.1), (31, .int .i64 x3524)] w3910 (by kernel_rfl) ?_
  obtain ⟨y3913, hy3913, hm⟩ := gx_bind hm
  obtain ⟨zs3914, hz3915, hr3916, hi3917⟩ := id ho3909
  obtain ⟨g3918, hg3919⟩ := gxIdx_fst hz3915 hy3913
  refine W_val (elemP p3905 (r3646.1.toNat * 3)) w3910 (by kernel_rfl) (E_index (E := deepBalloon.E) _ _ _ r3903.length c3906 .i64 r3646.1 3 (y := (y3913, g3918)) rfl (by kernel_rfl) (by kernel_rfl) (by kernel_rfl) (hr3916.rd M3912 0 (by kernel_rfl)) (len_fst hz3915) hg3919) ?_
  refine W_val (elemP p3905 (r3646.1.toNat * 3 + 1)) w3910 (by kernel_rfl) (E_fieldE (E := deepBalloon.E) _ _ 1 (r3646.1.toNat * 3) 1 rfl (by kernel_rfl) (by kernel_rfl) (hr3916.rd M3912 0 (by kernel_rfl)) hg3919) ?_
  refine W_storeE (E := deepBalloon.E) _ _ _ false 1 r3646.1.toNat 1 (r3646.1.toNat * 3 + 1) (y3913, g3918) ((⟨y3913.Guest, x3524, y3913.Gave⟩ : Balloon), g3918) (.int .i64 x3524) 0 M3912 hr3916 (by kernel_rfl) (by kernel_rfl) rfl (by kernel_rfl) (by kernel_rfl) (by kernel_rfl) (by kernel_rfl) (by kernel_rfl) (by kernel_rfl) (by kernel_rfl) (gxIdx_spec hg3919).2 rfl ?_
  intro w3921 sg3923 ho3924 M3922
  have ho3925 : ownD deepBalloon (r3903.set r3646.1.toNat (⟨y3913.Guest, x3524, y3913.Gave⟩ : Balloon)) p3905 c3906 sg3923 sg3908 := ⟨_, set_fst hz3915 r3646.1.toNat ((⟨y3913.Guest, x3524, y3913.Gave⟩ : Balloon), g3918), ho3924, (by rw [flatMap_setSame (gxIdx_spec hg3919).2 (by kernel_rfl)]; exact hi3917)⟩
  have hput3926 := gxIdx_put (⟨y3913.Guest, x3524, y3913.Gave⟩ : Balloon) (gxIdx_down hz3915 hg3919)
  refine W_conv 12 (.slice p3905 r3903.length c3906) (.slice p3905 (r3903.set r3646.1.toNat (⟨y3913.Guest, x3524, y3913.Gave⟩ : Balloon)).length c3906) (by kernel_rfl) (by rw [@List.length_set _ r3903 r3646.1.toNat (⟨y3913.Guest, x3524, y3913.Gave⟩ : Balloon)]) ?_
  refine W_conv 29 (.slice p3905 r3903.length c3906) (.slice p3905 (r3903.set r3646.1.toNat (⟨y3913.Guest, x3524, y3913.Gave⟩ : Balloon)).length c3906) (by kernel_rfl) (by rw [@List.length_set _ r3903 r3646.1.toNat (⟨y3913.Guest, x3524, y3913.Gave⟩ : Balloon)]) ?_
  refine W_nil ?_
  refine N_then ?_
  refine G_seq ?_
  refine G_region ?_
  refine W_run 3 [(8, .slice p3905 (r3903.set r3646.1.toNat (⟨y3913.Guest, x3524, y3913.Gave⟩ : Balloon)).length c3906), (9, .bool true)] w3921 (by kernel_rfl) ?_
  refine W_nil ?_
  refine N_then ?_
  refine G_ret ?_
  obtain rfl := Option.some.inj hm
  refine N_ret [.slice p3905 (r3903.set r3646.1.toNat (⟨y3913.Guest, x3524, y3913.Gave⟩ : Balloon)).length c3906, .bool true] (RVs_cons (RV_tmp (by kernel_rfl)) (RVs_cons (RV_tmp (by kernel_rfl)) RVs_nil)) ?_
  exact ⟨p3905, c3906, sg3923, sg3908, rfl, ho3925, M3922.pick [0, 1] (by kernel_rfl)⟩
theorem c_l_markIntS (w : World) (x3984 : List Int) (p3986 : Option Addr) (c3987 : Nat) (sg3988 : Seg) (ho3989 : ownS Gx.encI x3984 p3986 c3987 sg3988) (x3990 : Int) (hA : ∀ q ∈ List.flatten [sg3988], w.heap[q.1]? = some q.2) (hN : (idsOf [sg3988]).Nodup) {r : Int × (List Int)} (hm : M.l_markIntS x3984 x3990 = some r) :
    Calls Try.prog 24 #[.slice p3986 x3984.length c3987, .int .i64 x3990] w fun e w' => ∃ (sg3991 : Seg), e = .returned (.int .i64 r.1) ∧ ownS Gx.encI r.2 p3986 c3987 sg3991 ∧ r.2.length = x3984.length ∧ Mem (idsOf [sg3988]) w w' [sg3991] := by
  unfold M.l_markIntS at hm
  refine C_enter Try.func24 rfl (by kernel_rfl) ?_
  have M0 := Mem.start' w [sg3988] hA hN
  refine G_seq ?_
  refine G_region ?_
  refine W_run 1 [(0, .slice p3986 x3984.length c3987), (1, .int .i64 x3990)] w (by kernel_rfl) ?_
  refine W_nil ?_
  refine N_then ?_
  refine G_seq ?_
  refine G_seq ?_
  refine G_region ?_
  refine W_run 1 [(0, .slice p3986 x3984.length c3987), (1, .int .i64 x3990), (5, .int .i64 0)] w (by kernel_rfl) ?_
  refine W_nil ?_
  refine N_then ?_
  obtain ⟨out4014, hw4015, hmo4016⟩ := gx_bind hm
  refine G_meet (fun a w' => ∃ (sg4021 : Seg), ownS Gx.encI out4014.2 p3986 c3987 sg4021 ∧ out4014.2.length = x3984.length ∧ Mem (idsOf [sg3988]) w w' [sg4021] ∧ Sat Try.f24.ntmps [(1, .int .i64 out4014.1)] a) ?_ ?_
  · refine G_block ?_
    refine G_while (σ := Int × Int × List Int) (ρ := Int × List Int) (fun s4007 a w' => ∃ (sg4017 : Seg), ownS Gx.encI s4007.2.2 p3986 c3987 sg4017 ∧ s4007.2.2.length = x3984.length ∧ Mem (idsOf [sg3988]) w w' [sg4017] ∧ Sat Try.f24.ntmps [(0, .slice p3986 s4007.2.2.length c3987), (1, .int .i64 s4007.1), (5, .int .i64 s4007.2.1)] a) hw4015 (fun a ha => ⟨sg3988, ho3989, rfl, M0.pick [0] (by kernel_rfl), ha.sub (by kernel_rfl)⟩) ?_
    clear hm
    intro s4007 x4008 hm hout4009 a4010 w4011 ⟨sg4017, ho4018, hl4019, M4012, hS4013⟩
    refine G_use hS4013 ?_
    refine G_seq ?_
    refine G_seq ?_
    refine G_region ?_
    refine W_run 4 [(0, .slice p3986 s4007.2.2.length c3987), (1, .int .i64 s4007.1), (5, .int .i64 s4007.2.1), (9, .bool (decide (s4007.2.1 < (s4007.2.2.length : Int))))] w4011 (by kernel_rfl) ?_
    refine W_nil ?_
    refine N_then ?_
    rcases gx_bif hm with ⟨hc4024, hm⟩ | ⟨hc4024, hm⟩
    · refine G_cond_t (b := (decide (s4007.2.1 < (s4007.2.2.length : Int)))) hc4024 (by kernel_rfl) ?_
      refine G_skip ?_
      refine N_then ?_
      refine G_seq ?_
      refine G_block ?_
      refine G_seq ?_
      refine G_region ?_
      refine W_run 3 [(0, .slice p3986 s4007.2.2.length c3987), (1, .int .i64 s4007.1), (5, .int .i64 s4007.2.1), (12, .slice p3986 s4007.2.2.length c3987), (13, .int .i64 s4007.2.1), (14, .int .i64 s4007.1)] w4011 (by kernel_rfl) ?_
      obtain ⟨y4025, hy4025, hm⟩ := gx_bind hm
      refine W_val (elemP p3986 (s4007.2.1.toNat * 1)) w4011 (by kernel_rfl) (E_index (E := Gx.encI) _ _ _ s4007.2.2.length c3987 .i64 s4007.2.1 1 (y := y4025) rfl (by kernel_rfl) (by kernel_rfl) (by kernel_rfl) (ho4018.rd M4012 0 (by kernel_rfl)) rfl hy4025) ?_
      refine W_storeE (E := Gx.encI) _ _ _ false 1 s4007.2.1.toNat 0 (s4007.2.1.toNat * 1) y4025 s4007.1 (.int .i64 s4007.1) 0 M4012 ho4018 (by kernel_rfl) (by kernel_rfl) rfl (by kernel_rfl) (by kernel_rfl) (by kernel_rfl) (by kernel_rfl) (by kernel_rfl) (by kernel_rfl) (by kernel_rfl) (gxIdx_spec hy4025).2 rfl ?_
      intro w4026 sg4028 ho4029 M4027
      refine W_conv 0 (.slice p3986 s4007.2.2.length c3987) (.slice p3986 (s4007.2.2.set s4007.2.1.toNat s4007.1).length c3987) (by kernel_rfl) (by rw [@List.length_set _ s4007.2.2 s4007.2.1.toNat s4007.1]) ?_
      refine W_conv 12 (.slice p3986 s4007.2.2.length c3987) (.slice p3986 (s4007.2.2.set s4007.2.1.toNat s4007.1).length c3987) (by kernel_rfl) (by rw [@List.length_set _ s4007.2.2 s4007.2.1.toNat s4007.1]) ?_
      refine W_nil ?_
      refine N_then ?_
      refine G_region ?_
      refine W_run 3 [(0, .slice p3986 (s4007.2.2.set s4007.2.1.toNat s4007.1).length c3987), (1, .int .i64 (w64 (s4007.1 + 1))), (5, .int .i64 s4007.2.1)] w4026 (by kernel_rfl) ?_
      refine W_nil ?_
      refine N_block ?_
      refine N_then ?_
      refine G_region ?_
      refine W_run 3 [(0, .slice p3986 (s4007.2.2.set s4007.2.1.toNat s4007.1).length c3987), (1, .int .i64 (w64 (s4007.1 + 1))), (5, .int .i64 (w64 (s4007.2.1 + 1)))] w4026 (by kernel_rfl) ?_
      refine W_nil ?_
      obtain rfl := Option.some.inj hm
      exact N_loop fun a ha => ⟨_, rfl, sg4028, ho4029, (List.length_set.trans hl4019), M4027.pick [0] (by kernel_rfl), ha.sub (by kernel_rfl)⟩
    refine G_cond_f (b := (decide (s4007.2.1 < (s4007.2.2.length : Int)))) hc4024 (by kernel_rfl) ?_
    refine G_exit ?_
    refine N_then_exit ?_
    refine N_then_exit ?_
    refine N_block_eq ?_
    obtain rfl := Option.some.inj hm
    obtain rfl := hout4009 _ rfl
    exact N_meet fun a ha => ⟨sg4017, ho4018, hl4019, M4012.pick [0] (by kernel_rfl), ha.sub (by kernel_rfl)⟩
  intro a4030 w4031 ⟨sg4021, ho4022, hl4023, M4032, hS4033⟩
  refine N_use hS4033 ?_
  have hm := hmo4016
  refine N_then ?_
  refine G_seq ?_
  refine G_region ?_
  refine W_run 2 [(4, .int .i64 out4014.1)] w4031 (by kernel_rfl) ?_
  refine W_nil ?_
  refine N_then ?_
  refine G_ret ?_
  obtain rfl := Option.some.inj hm
  refine N_ret [.int .i64 out4014.1] (RVs_cons (RV_tmp (by kernel_rfl)) RVs_nil) ?_
  exact ⟨sg4021, rfl, ho4022, hl4023, M4032.pick [0] (by kernel_rfl)⟩
theorem c_l_markBalloonS (w : World) (x4041 : List Balloon) (p4043 : Option Addr) (c4044 : Nat) (sg4045 : Seg) (sg4046 : Seg) (ho4047 : ownD deepBalloon x4041 p4043 c4044 sg4045 sg4046) (x4048 : Int) (hA : ∀ q ∈ List.flatten [sg4045, sg4046], w.heap[q.1]? = some q.2) (hN : (idsOf [sg4045, sg4046]).Nodup) {r : Int × (List Balloon)} (hm : M.l_markBalloonS x4041 x4048 = some r) :
    Calls Try.prog 25 #[.slice p4043 x4041.length c4044, .int .i64 x4048] w fun e w' => ∃ (sg4049 : Seg) (sg4050 : Seg), e = .returned (.int .i64 r.1) ∧ ownD deepBalloon r.2 p4043 c4044 sg4049 sg4050 ∧ r.2.length = x4041.length ∧ Mem (idsOf [sg4045, sg4046]) w w' [sg4049, sg4050] := by
  unfold M.l_markBalloonS at hm
  refine C_enter Try.func25 rfl (by kernel_rfl) ?_
  have M0 := Mem.start' w [sg4045, sg4046] hA hN
  refine G_seq ?_
  refine G_region ?_
  refine W_run 1 [(0, .slice p4043 x4041.length c4044), (1, .int .i64 x4048)] w (by kernel_rfl) ?_
  refine W_nil ?_
  refine N_then ?_
  refine G_seq ?_
  refine G_seq ?_
  refine G_region ?_
  refine W_run 1 [(0, .slice p4043 x4041.length c4044), (1, .int .i64 x4048), (5, .int .i64 0)] w (by kernel_rfl) ?_
  refine W_nil ?_
  refine N_then ?_
  obtain ⟨out4188, hw4189, hmo4190⟩ := gx_bind hm
  refine G_meet (fun a w' => ∃ (sg4196 : Seg), ∃ (sg4197 : Seg), ownD deepBalloon out4188.2 p4043 c4044 sg4196 sg4197 ∧ out4188.2.length = x4041.length ∧ Mem (idsOf [sg4045, sg4046]) w w' [sg4196, sg4197] ∧ Sat Try.f25.ntmps [(1, .int .i64 out4188.1)] a) ?_ ?_
  · refine G_block ?_
    refine G_while (σ := Int × Int × List Balloon) (ρ := Int × List Balloon) (fun s4181 a w' => ∃ (sg4191 : Seg), ∃ (sg4192 : Seg), ownD deepBalloon s4181.2.2 p4043 c4044 sg4191 sg4192 ∧ s4181.2.2.length = x4041.length ∧ Mem (idsOf [sg4045, sg4046]) w w' [sg4191, sg4192] ∧ Sat Try.f25.ntmps [(0, .slice p4043 s4181.2.2.length c4044), (1, .int .i64 s4181.1), (5, .int .i64 s4181.2.1)] a) hw4189 (fun a ha => ⟨sg4045, sg4046, ho4047, rfl, M0.pick [0, 1] (by kernel_rfl), ha.sub (by kernel_rfl)⟩) ?_
    clear hm
    intro s4181 x4182 hm hout4183 a4184 w4185 ⟨sg4191, sg4192, ho4193, hl4194, M4186, hS4187⟩
    refine G_use hS4187 ?_
    refine G_seq ?_
    refine G_seq ?_
    refine G_region ?_
    refine W_run 4 [(0, .slice p4043 s4181.2.2.length c4044), (1, .int .i64 s4181.1), (5, .int .i64 s4181.2.1), (9, .bool (decide (s4181.2.1 < (s4181.2.2.length : Int))))] w4185 (by kernel_rfl) ?_
    refine W_nil ?_
    refine N_then ?_
    rcases gx_bif hm with ⟨hc4200, hm⟩ | ⟨hc4200, hm⟩
    · refine G_cond_t (b := (decide (s4181.2.1 < (s4181.2.2.length : Int)))) hc4200 (by kernel_rfl) ?_
      refine G_skip ?_
      refine N_then ?_
      refine G_seq ?_
      refine G_block ?_
      refine G_seq ?_
      refine G_region ?_
      refine W_run 3 [(0, .slice p4043 s4181.2.2.length c4044), (1, .int .i64 s4181.1), (5, .int .i64 s4181.2.1), (12, .slice p4043 s4181.2.2.length c4044), (13, .int .i64 s4181.2.1), (14, .int .i64 s4181.1)] w4185 (by kernel_rfl) ?_
      obtain ⟨y4201, hy4201, hm⟩ := gx_bind hm
      obtain ⟨zs4202, hz4203, hr4204, hi4205⟩ := id ho4193
      obtain ⟨g4206, hg4207⟩ := gxIdx_fst hz4203 hy4201
      refine W_val (elemP p4043 (s4181.2.1.toNat * 3)) w4185 (by kernel_rfl) (E_index (E := deepBalloon.E) _ _ _ s4181.2.2.length c4044 .i64 s4181.2.1 3 (y := (y4201, g4206)) rfl (by kernel_rfl) (by kernel_rfl) (by kernel_rfl) (hr4204.rd M4186 0 (by kernel_rfl)) (len_fst hz4203) hg4207) ?_
      refine W_val (elemP p4043 (s4181.2.1.toNat * 3 + 0)) w4185 (by kernel_rfl) (E_fieldE (E := deepBalloon.E) _ _ 0 (s4181.2.1.toNat * 3) 0 rfl (by kernel_rfl) (by kernel_rfl) (hr4204.rd M4186 0 (by kernel_rfl)) hg4207) ?_
      refine W_storeE (E := deepBalloon.E) _ _ _ false 1 s4181.2.1.toNat 0 (s4181.2.1.toNat * 3 + 0) (y4201, g4206) ((⟨s4181.1, y4201.Goal, y4201.Gave⟩ : Balloon), g4206) (.int .i64 s4181.1) 0 M4186 hr4204 (by kernel_rfl) (by kernel_rfl) rfl (by kernel_rfl) (by kernel_rfl) (by kernel_rfl) (by kernel_rfl) (by kernel_rfl) (by kernel_rfl) (by kernel_rfl) (gxIdx_spec hg4207).2 rfl ?_
      intro w4209 sg4211 ho4212 M4210
      have ho4213 : ownD deepBalloon (s4181.2.2.set s4181.2.1.toNat (⟨s4181.1, y4201.Goal, y4201.Gave⟩ : Balloon)) p4043 c4044 sg4211 sg4192 := ⟨_, set_fst hz4203 s4181.2.1.toNat ((⟨s4181.1, y4201.Goal, y4201.Gave⟩ : Balloon), g4206), ho4212, (by rw [flatMap_setSame (gxIdx_spec hg4207).2 (by kernel_rfl)]; exact hi4205)⟩
      have hput4214 := gxIdx_put (⟨s4181.1, y4201.Goal, y4201.Gave⟩ : Balloon) (gxIdx_down hz4203 hg4207)
      refine W_conv 0 (.slice p4043 s4181.2.2.length c4044) (.slice p4043 (s4181.2.2.set s4181.2.1.toNat (⟨s4181.1, y4201.Goal, y4201.Gave⟩ : Balloon)).length c4044) (by kernel_rfl) (by rw [@List.length_set _ s4181.2.2 s4181.2.1.toNat (⟨s4181.1, y4201.Goal, y4201.Gave⟩ : Balloon)]) ?_
      refine W_conv 12 (.slice p4043 s4181.2.2.length c4044) (.slice p4043 (s4181.2.2.set s4181.2.1.toNat (⟨s4181.1, y4201.Goal, y4201.Gave⟩ : Balloon)).length c4044) (by kernel_rfl) (by rw [@List.length_set _ s4181.2.2 s4181.2.1.toNat (⟨s4181.1, y4201.Goal, y4201.Gave⟩ : Balloon)]) ?_
      refine W_nil ?_
      refine N_then ?_
      refine G_seq ?_
      refine G_region ?_
      refine W_run 3 [(0, .slice p4043 (s4181.2.2.set s4181.2.1.toNat (⟨s4181.1, y4201.Goal, y4201.Gave⟩ : Balloon)).length c4044), (1, .int .i64 (w64 (s4181.1 + 1))), (5, .int .i64 s4181.2.1)] w4209 (by kernel_rfl) ?_
      refine W_nil ?_
      refine N_then ?_
      refine G_seq ?_
      refine G_region ?_
      refine W_run 3 [(0, .slice p4043 (s4181.2.2.set s4181.2.1.toNat (⟨s4181.1, y4201.Goal, y4201.Gave⟩ : Balloon)).length c4044), (1, .int .i64 (w64 (s4181.1 + 1))), (5, .int .i64 s4181.2.1), (19, .slice p4043 (s4181.2.2.set s4181.2.1.toNat (⟨s4181.1, y4201.Goal, y4201.Gave⟩ : Balloon)).length c4044), (20, .int .i64 s4181.2.1), (21, .int .i64 (w64 (s4181.1 + 1)))] w4209 (by kernel_rfl) ?_
      obtain ⟨y4215, hy4215, hm⟩ := gx_bind hm
      obtain ⟨zs4216, hz4217, hr4218, hi4219⟩ := id ho4213
      obtain ⟨g4220, hg4221⟩ := gxIdx_fst hz4217 hy4215
      refine W_val (elemP p4043 (s4181.2.1.toNat * 3)) w4209 (by kernel_rfl) (E_index (E := deepBalloon.E) _ _ _ (s4181.2.2.set s4181.2.1.toNat (⟨s4181.1, y4201.Goal, y4201.Gave⟩ : Balloon)).length c4044 .i64 s4181.2.1 3 (y := (y4215, g4220)) rfl (by kernel_rfl) (by kernel_rfl) (by kernel_rfl) (hr4218.rd M4210 0 (by kernel_rfl)) (len_fst hz4217) hg4221) ?_
      refine W_val (elemP p4043 (s4181.2.1.toNat * 3 + 1)) w4209 (by kernel_rfl) (E_fieldE (E := deepBalloon.E) _ _ 1 (s4181.2.1.toNat * 3) 1 rfl (by kernel_rfl) (by kernel_rfl) (hr4218.rd M4210 0 (by kernel_rfl)) hg4221) ?_
      refine W_storeE (E := deepBalloon.E) _ _ _ false 1 s4181.2.1.toNat 1 (s4181.2.1.toNat * 3 + 1) (y4215, g4220) ((⟨y4215.Guest, w64 (s4181.1 + 1), y4215.Gave⟩ : Balloon), g4220) (.int .i64 (w64 (s4181.1 + 1))) 0 M4210 hr4218 (by kernel_rfl) (by kernel_rfl) rfl (by kernel_rfl) (by kernel_rfl) (by kernel_rfl) (by kernel_rfl) (by kernel_rfl) (by kernel_rfl) (by kernel_rfl) (gxIdx_spec hg4221).2 rfl ?_
      intro w4223 sg4225 ho4226 M4224
      have ho4227 : ownD deepBalloon ((s4181.2.2.set s4181.2.1.toNat (⟨s4181.1, y4201.Goal, y4201.Gave⟩ : Balloon)).set s4181.2.1.toNat (⟨y4215.Guest, w64 (s4181.1 + 1), y4215.Gave⟩ : Balloon)) p4043 c4044 sg4225 sg4192 := ⟨_, set_fst hz4217 s4181.2.1.toNat ((⟨y4215.Guest, w64 (s4181.1 + 1), y4215.Gave⟩ : Balloon), g4220), ho4226, (by rw [flatMap_setSame (gxIdx_spec hg4221).2 (by kernel_rfl)]; exact hi4219)⟩
      have hput4228 := gxIdx_put (⟨y4215.Guest, w64 (s4181.1 + 1), y4215.Gave⟩ : Balloon) (gxIdx_down hz4217 hg4221)
      refine W_conv 0 (.slice p4043 (s4181.2.2.set s4181.2.1.toNat (⟨s4181.1, y4201.Goal, y4201.Gave⟩ : Balloon)).length c4044) (.slice p4043 ((s4181.2.2.set s4181.2.1.toNat (⟨s4181.1, y4201.Goal, y4201.Gave⟩ : Balloon)).set s4181.2.1.toNat (⟨y4215.Guest, w64 (s4181.1 + 1), y4215.Gave⟩ : Balloon)).length c4044) (by kernel_rfl) (by rw [@List.length_set _ (s4181.2.2.set s4181.2.1.toNat (⟨s4181.1, y4201.Goal, y4201.Gave⟩ : Balloon)) s4181.2.1.toNat (⟨y4215.Guest, w64 (s4181.1 + 1), y4215.Gave⟩ : Balloon)]) ?_
      refine W_conv 19 (.slice p4043 (s4181.2.2.set s4181.2.1.toNat (⟨s4181.1, y4201.Goal, y4201.Gave⟩ : Balloon)).length c4044) (.slice p4043 ((s4181.2.2.set s4181.2.1.toNat (⟨s4181.1, y4201.Goal, y4201.Gave⟩ : Balloon)).set s4181.2.1.toNat (⟨y4215.Guest, w64 (s4181.1 + 1), y4215.Gave⟩ : Balloon)).length c4044) (by kernel_rfl) (by rw [@List.length_set _ (s4181.2.2.set s4181.2.1.toNat (⟨s4181.1, y4201.Goal, y4201.Gave⟩ : Balloon)) s4181.2.1.toNat (⟨y4215.Guest, w64 (s4181.1 + 1), y4215.Gave⟩ : Balloon)]) ?_
      refine W_nil ?_
      refine N_then ?_
      refine G_seq ?_
      refine G_region ?_
      refine W_run 3 [(0, .slice p4043 ((s4181.2.2.set s4181.2.1.toNat (⟨s4181.1, y4201.Goal, y4201.Gave⟩ : Balloon)).set s4181.2.1.toNat (⟨y4215.Guest, w64 (s4181.1 + 1), y4215.Gave⟩ : Balloon)).length c4044), (1, .int .i64 (w64 ((w64 (s4181.1 + 1)) + 1))), (5, .int .i64 s4181.2.1)] w4223 (by kernel_rfl) ?_
      refine W_nil ?_
      refine N_then ?_
      refine G_region ?_
      refine W_run 2 [(0, .slice p4043 ((s4181.2.2.set s4181.2.1.toNat (⟨s4181.1, y4201.Goal, y4201.Gave⟩ : Balloon)).set s4181.2.1.toNat (⟨y4215.Guest, w64 (s4181.1 + 1), y4215.Gave⟩ : Balloon)).length c4044), (1, .int .i64 (w64 ((w64 (s4181.1 + 1)) + 1))), (5, .int .i64 s4181.2.1), (26, .slice p4043 ((s4181.2.2.set s4181.2.1.toNat (⟨s4181.1, y4201.Goal, y4201.Gave⟩ : Balloon)).set s4181.2.1.toNat (⟨y4215.Guest, w64 (s4181.1 + 1), y4215.Gave⟩ : Balloon)).length c4044), (27, .int .i64 s4181.2.1)] w4223 (by kernel_rfl) ?_
      obtain ⟨y4229, hy4229, hm⟩ := gx_bind hm
      obtain ⟨zs4230, hz4231, hr4232, hi4233⟩ := id ho4227
      obtain ⟨g4234, hg4235⟩ := gxIdx_fst hz4231 hy4229
      refine W_val (elemP p4043 (s4181.2.1.toNat * 3)) w4223 (by kernel_rfl) (E_index (E := deepBalloon.E) _ _ _ ((s4181.2.2.set s4181.2.1.toNat (⟨s4181.1, y4201.Goal, y4201.Gave⟩ : Balloon)).set s4181.2.1.toNat (⟨y4215.Guest, w64 (s4181.1 + 1), y4215.Gave⟩ : Balloon)).length c4044 .i64 s4181.2.1 3 (y := (y4229, g4234)) rfl (by kernel_rfl) (by kernel_rfl) (by kernel_rfl) (hr4232.rd M4224 0 (by kernel_rfl)) (len_fst hz4231) hg4235) ?_
      refine W_val (elemP p4043 (s4181.2.1.toNat * 3 + 2)) w4223 (by kernel_rfl) (E_fieldE (E := deepBalloon.E) _ _ 2 (s4181.2.1.toNat * 3) 2 rfl (by kernel_rfl) (by kernel_rfl) (hr4232.rd M4224 0 (by kernel_rfl)) hg4235) ?_
      refine W_val (.slice ((g4234 0).1) y4229.Gave.length ((g4234 0).2)) w4223 (by kernel_rfl) (E_loadE (E := deepBalloon.E) _ _ false 1 s4181.2.1 2 (s4181.2.1.toNat * 3 + 2) (y4229, g4234) (.slice ((g4234 0).1) y4229.Gave.length ((g4234 0).2)) rfl (by kernel_rfl) (by kernel_rfl) (by kernel_rfl) (hr4232.rd M4224 0 (by kernel_rfl)) hg4235 rfl) ?_
      refine W_run 1 [(0, .slice p4043 ((s4181.2.2.set s4181.2.1.toNat (⟨s4181.1, y4201.Goal, y4201.Gave⟩ : Balloon)).set s4181.2.1.toNat (⟨y4215.Guest, w64 (s4181.1 + 1), y4215.Gave⟩ : Balloon)).length c4044), (1, .int .i64 (w64 ((w64 (s4181.1 + 1)) + 1))), (5, .int .i64 s4181.2.1), (30, .slice ((g4234 0).1) y4229.Gave.length ((g4234 0).2)), (31, .int .i64 (w64 ((w64 (s4181.1 + 1)) + 1)))] w4223 (by kernel_rfl) ?_
      obtain ⟨sa4238, sb4239, sc4240, hs4241, hb4242, hp4243⟩ := hi4233.lens (gxIdx_spec hg4235).2
      have M4244 := M4224.cut 1 (sa := sa4238) (sb := sb4239) (sc := sc4240) hs4241 (by kernel_rfl)
      obtain ⟨u4245, r4246, hu4247, ho4248, hr4249⟩ := hb4242
      have M4250 := M4244.cut 2 (sa := []) (sb := u4245) (sc := r4246) hu4247 (by kernel_rfl)
      obtain ⟨r4237, hr4237, hm⟩ := gx_bind hm
      refine W_call 24 #[.slice ((g4234 0).1) y4229.Gave.length ((g4234 0).2), .int .i64 (w64 ((w64 (s4181.1 + 1)) + 1))] (by kernel_rfl) (by kernel_rfl) ?_
      refine (c_l_markIntS w4223 y4229.Gave ((g4234 0).1) ((g4234 0).2) u4245 ho4248 (w64 ((w64 (s4181.1 + 1)) + 1)) (M4250.hasPick [4]) (M4250.nodupPick [4] (by kernel_rfl)) hr4237).mono ?_
      rintro e_ w4255 ⟨sg4252, rfl, ho4253, hl4254, K4256⟩
      have M4257 := M4250.callF' [4] [0, 1, 2, 3, 5] (by kernel_rfl) K4256
      refine ⟨_, rfl, ?_⟩
      refine W_conv 30 (.slice ((g4234 0).1) y4229.Gave.length ((g4234 0).2)) (.slice ((g4234 0).1) r4237.2.length ((g4234 0).2)) (by kernel_rfl) (by first | rw [hl4254] | rw [hl4254]) ?_
      have M4259 : Mem (idsOf [sg4045, sg4046]) w w4255 [sg4225, [], sa4238, sg4252, sc4240] := M4257.pick [0, 2, 1, 5, 3] (by kernel_rfl)
      have M4260 : Mem (idsOf [sg4045, sg4046]) w w4255 [sg4225, [], (sa4238 ++ ((sg4252 ++ []) ++ sc4240))] := M4259.regroup (by simp)
      have ho4261 : ownD deepBalloon (((s4181.2.2.set s4181.2.1.toNat (⟨s4181.1, y4201.Goal, y4201.Gave⟩ : Balloon)).set s4181.2.1.toNat (⟨y4215.Guest, w64 (s4181.1 + 1), y4215.Gave⟩ : Balloon)).set s4181.2.1.toNat (⟨y4229.Guest, y4229.Goal, r4237.2⟩ : Balloon)) p4043 c4044 sg4225 (sa4238 ++ ((sg4252 ++ []) ++ sc4240)) := ⟨_, set_fst hz4231 s4181.2.1.toNat ((⟨y4229.Guest, y4229.Goal, r4237.2⟩ : Balloon), g4234), (hr4232.setSame (z' := ((⟨y4229.Guest, y4229.Goal, r4237.2⟩ : Balloon), g4234)) (gxIdx_spec hg4235).2 (by show ([.int .i64 y4229.Guest, .int .i64 y4229.Goal, .slice ((g4234 0).1) r4237.2.length ((g4234 0).2)] : List Value) = [.int .i64 y4229.Guest, .int .i64 y4229.Goal, .slice ((g4234 0).1) y4229.Gave.length ((g4234 0).2)]; rw [hl4254])), hp4243 ((⟨y4229.Guest, y4229.Goal, r4237.2⟩ : Balloon), g4234) _ (ownI_cons (i := ⟨Int, Gx.encI, _, _, _⟩) ho4253 ownI_nil)⟩
      have hput4262 := gxIdx_put (⟨y4229.Guest, y4229.Goal, r4237.2⟩ : Balloon) (gxIdx_down hz4231 hg4235)
      refine W_conv 0 (.slice p4043 ((s4181.2.2.set s4181.2.1.toNat (⟨s4181.1, y4201.Goal, y4201.Gave⟩ : Balloon)).set s4181.2.1.toNat (⟨y4215.Guest, w64 (s4181.1 + 1), y4215.Gave⟩ : Balloon)).length c4044) (.slice p4043 (((s4181.2.2.set s4181.2.1.toNat (⟨s4181.1, y4201.Goal, y4201.Gave⟩ : Balloon)).set s4181.2.1.toNat (⟨y4215.Guest, w64 (s4181.1 + 1), y4215.Gave⟩ : Balloon)).set s4181.2.1.toNat (⟨y4229.Guest, y4229.Goal, r4237.2⟩ : Balloon)).length c4044) (by kernel_rfl) (by rw [@List.length_set _ ((s4181.2.2.set s4181.2.1.toNat (⟨s4181.1, y4201.Goal, y4201.Gave⟩ : Balloon)).set s4181.2.1.toNat (⟨y4215.Guest, w64 (s4181.1 + 1), y4215.Gave⟩ : Balloon)) s4181.2.1.toNat (⟨y4229.Guest, y4229.Goal, r4237.2⟩ : Balloon)]) ?_
      refine W_run 1 [(0, .slice p4043 (((s4181.2.2.set s4181.2.1.toNat (⟨s4181.1, y4201.Goal, y4201.Gave⟩ : Balloon)).set s4181.2.1.toNat (⟨y4215.Guest, w64 (s4181.1 + 1), y4215.Gave⟩ : Balloon)).set s4181.2.1.toNat (⟨y4229.Guest, y4229.Goal, r4237.2⟩ : Balloon)).length c4044), (1, .int .i64 r4237.1), (5, .int .i64 s4181.2.1)] w4255 (by kernel_rfl) ?_
      refine W_nil ?_
      refine N_block ?_
      refine N_then ?_
      refine G_region ?_
      refine W_run 3 [(0, .slice p4043 (((s4181.2.2.set s4181.2.1.toNat (⟨s4181.1, y4201.Goal, y4201.Gave⟩ : Balloon)).set s4181.2.1.toNat (⟨y4215.Guest, w64 (s4181.1 + 1), y4215.Gave⟩ : Balloon)).set s4181.2.1.toNat (⟨y4229.Guest, y4229.Goal, r4237.2⟩ : Balloon)).length c4044), (1, .int .i64 r4237.1), (5, .int .i64 (w64 (s4181.2.1 + 1)))] w4255 (by kernel_rfl) ?_
      refine W_nil ?_
      obtain rfl := Option.some.inj hm
      exact N_loop fun a ha => ⟨_, rfl, sg4225, (sa4238 ++ ((sg4252 ++ []) ++ sc4240)), ho4261, (List.length_set.trans (List.length_set.trans (List.length_set.trans hl4194))), M4260.pick [0, 2] (by kernel_rfl), ha.sub (by kernel_rfl)⟩
    refine G_cond_f (b := (decide (s4181.2.1 < (s4181.2.2.length : Int)))) hc4200 (by kernel_rfl) ?_
    refine G_exit ?_
    refine N_then_exit ?_
    refine N_then_exit ?_
    refine N_block_eq ?_
    obtain rfl := Option.some.inj hm
    obtain rfl := hout4183 _ rfl
    exact N_meet fun a ha => ⟨sg4191, sg4192, ho4193, hl4194, M4186.pick [0, 1] (by kernel_rfl), ha.sub (by kernel_rfl)⟩
  intro a4263 w4264 ⟨sg4196, sg4197, ho4198, hl4199, M4265, hS4266⟩
  refine N_use hS4266 ?_
  have hm := hmo4190
  refine N_then ?_
  refine G_seq ?_
  refine G_region ?_
  refine W_run 2 [(4, .int .i64 out4188.1)] w4264 (by kernel_rfl) ?_
  refine W_nil ?_
  refine N_then ?_
  refine G_ret ?_
  obtain rfl := Option.some.inj hm
  refine N_ret [.int .i64 out4188.1] (RVs_cons (RV_tmp (by kernel_rfl)) RVs_nil) ?_
  exact ⟨sg4196, sg4197, rfl, ho4198, hl4199, M4265.pick [0, 1] (by kernel_rfl)⟩
theorem c_l_heldIntS (w : World) (x4328 : List Int) (p4330 : Option Addr) (c4331 : Nat) (h4332 : rdS Gx.encI w x4328 p4330 c4331) (x4333 : Int) {r : Int} (hm : M.l_heldIntS x4328 x4333 = some r) :
    Calls Try.prog 29 #[.slice p4330 x4328.length c4331, .int .i64 x4333] w fun e w' => e = .returned (.int .i64 r) ∧ Mem [] w w' [] := by
  unfold M.l_heldIntS at hm
  refine C_enter Try.func29 rfl (by kernel_rfl) ?_
  have M0 := Mem.refl [] w
  refine G_seq ?_
  refine G_region ?_
  refine W_run 1 [(0, .slice p4330 x4328.length c4331), (1, .int .i64 x4333)] w (by kernel_rfl) ?_
  refine W_nil ?_
  refine N_then ?_
  refine G_seq ?_
  refine G_seq ?_
  refine G_region ?_
  refine W_run 1 [(0, .slice p4330 x4328.length c4331), (1, .int .i64 x4333), (5, .int .i64 0)] w (by kernel_rfl) ?_
  refine W_nil ?_
  refine N_then ?_
  obtain ⟨out4347, hw4348, hmo4349⟩ := gx_bind hm
  refine G_meet (fun a w' => ∃ (o4350 : Int), out4347 = .inl o4350 ∧ Mem [] w w' [] ∧ Sat Try.f29.ntmps [(1, .int .i64 o4350)] a) ?_ ?_
  · refine G_block ?_
    refine G_while (σ := Int × Int) (ρ := (Int) ⊕ (Int)) (fun s4340 a w' => Mem [] w w' [] ∧ Sat Try.f29.ntmps [(0, .slice p4330 x4328.length c4331), (1, .int .i64 s4340.1), (5, .int .i64 s4340.2)] a) hw4348 (fun a ha => ⟨M0.pick [] (by kernel_rfl), ha.sub (by kernel_rfl)⟩) ?_
    clear hm
    intro s4340 x4341 hm hout4342 a4343 w4344 ⟨M4345, hS4346⟩
    refine G_use hS4346 ?_
    refine G_seq ?_
    refine G_seq ?_
    refine G_region ?_
    refine W_run 4 [(0, .slice p4330 x4328.length c4331), (1, .int .i64 s4340.1), (5, .int .i64 s4340.2), (9, .bool (decide (s4340.2 < (x4328.length : Int))))] w4344 (by kernel_rfl) ?_
    refine W_nil ?_
    refine N_then ?_
    rcases gx_bif hm with ⟨hc4351, hm⟩ | ⟨hc4351, hm⟩
    · refine G_cond_t (b := (decide (s4340.2 < (x4328.length : Int)))) hc4351 (by kernel_rfl) ?_
      refine G_skip ?_
      refine N_then ?_
      refine G_seq ?_
      refine G_block ?_
      refine G_seq ?_
      refine G_seq ?_
      refine G_region ?_
      refine W_run 2 [(0, .slice p4330 x4328.length c4331), (1, .int .i64 s4340.1), (5, .int .i64 s4340.2), (12, .slice p4330 x4328.length c4331), (13, .int .i64 s4340.2)] w4344 (by kernel_rfl) ?_
      obtain ⟨y4352, hy4352, hm⟩ := gx_bind hm
      refine W_val (elemP p4330 (s4340.2.toNat * 1)) w4344 (by kernel_rfl) (E_index (E := Gx.encI) _ _ _ x4328.length c4331 .i64 s4340.2 1 (y := y4352) rfl (by kernel_rfl) (by kernel_rfl) (by kernel_rfl) (h4332.mem0 M4345) rfl hy4352) ?_
      refine W_val (.int .i64 y4352) w4344 (by kernel_rfl) (E_loadE (E := Gx.encI) _ _ false 1 s4340.2 0 (s4340.2.toNat * 1) y4352 (.int .i64 y4352) rfl (by kernel_rfl) (by kernel_rfl) (by kernel_rfl) (h4332.mem0 M4345) hy4352 rfl) ?_
      refine W_run 2 [(0, .slice p4330 x4328.length c4331), (1, .int .i64 s4340.1), (5, .int .i64 s4340.2), (17, .bool (y4352 != s4340.1))] w4344 (by kernel_rfl) ?_
      refine W_nil ?_
      refine N_then ?_
      rcases gx_bif hm with ⟨hc4353, hm⟩ | ⟨hc4353, hm⟩
      · refine G_cond_t (b := (y4352 != s4340.1)) hc4353 (by kernel_rfl) ?_
        refine G_seq ?_
        refine G_region ?_
        refine W_run 1 [(4, .int .i64 (-1))] w4344 (by kernel_rfl) ?_
        refine W_nil ?_
        refine N_then ?_
        refine G_ret ?_
        refine N_then_ret ?_
        refine N_block_ret ?_
        refine N_then_ret ?_
        refine N_then_ret ?_
        obtain rfl := Option.some.inj hm
        obtain rfl := hout4342 _ rfl
        have hm := hmo4349; simp only [Sum.elim_inr] at hm
        refine N_block_ret ?_
        refine N_meet_ret ?_
        refine N_then_ret ?_
        obtain rfl := Option.some.inj hm
        refine N_ret [.int .i64 (-1)] (RVs_cons (RV_tmp (by kernel_rfl)) RVs_nil) ?_
        exact ⟨rfl, M4345.pick [] (by kernel_rfl)⟩
      refine G_cond_f (b := (y4352 != s4340.1)) hc4353 (by kernel_rfl) ?_
      refine G_skip ?_
      refine N_then ?_
      refine G_region ?_
      refine W_run 3 [(0, .slice p4330 x4328.length c4331), (1, .int .i64 (w64 (s4340.1 + 1))), (5, .int .i64 s4340.2)] w4344 (by kernel_rfl) ?_
      refine W_nil ?_
      refine N_block ?_
      refine N_then ?_
      refine G_region ?_
      refine W_run 3 [(0, .slice p4330 x4328.length c4331), (1, .int .i64 (w64 (s4340.1 + 1))), (5, .int .i64 (w64 (s4340.2 + 1)))] w4344 (by kernel_rfl) ?_
      refine W_nil ?_
      obtain rfl := Option.some.inj hm
      exact N_loop fun a ha => ⟨_, rfl, M4345.pick [] (by kernel_rfl), ha.sub (by kernel_rfl)⟩
    refine G_cond_f (b := (decide (s4340.2 < (x4328.length : Int)))) hc4351 (by kernel_rfl) ?_
    refine G_exit ?_
    refine N_then_exit ?_
    refine N_then_exit ?_
    refine N_block_eq ?_
    obtain rfl := Option.some.inj hm
    obtain rfl := hout4342 _ rfl
    exact N_meet fun a ha => ⟨_, rfl, M4345.pick [] (by kernel_rfl), ha.sub (by kernel_rfl)⟩
  intro a4354 w4355 ⟨o4350, hout_, M4356, hS4357⟩
  refine N_use hS4357 ?_
  subst hout_
  have hm := hmo4349; simp only [Sum.elim_inl] at hm
  refine N_then ?_
  refine G_seq ?_
  refine G_region ?_
  refine W_run 2 [(4, .int .i64 o4350)] w4355 (by kernel_rfl) ?_
  refine W_nil ?_
  refine N_then ?_
  refine G_ret ?_
  obtain rfl := Option.some.inj hm
  refine N_ret [.int .i64 o4350] (RVs_cons (RV_tmp (by kernel_rfl)) RVs_nil) ?_
  exact ⟨rfl, M4356.pick [] (by kernel_rfl)⟩
theorem c_l_heldBalloonS (w : World) (x4303 : List Balloon) (p4305 : Option Addr) (c4306 : Nat) (h4307 : rdD deepBalloon w x4303 p4305 c4306) (x4308 : Int) {r : Int} (hm : M.l_heldBalloonS x4303 x4308 = some r) :
    Calls Try.prog 26 #[.slice p4305 x4303.length c4306, .int .i64 x4308] w fun e w' => e = .returned (.int .i64 r) ∧ Mem [] w w' [] := by
  unfold M.l_heldBalloonS at hm
  refine C_enter Try.func26 rfl (by kernel_rfl) ?_
  have M0 := Mem.refl [] w
  refine G_seq ?_
  refine G_region ?_
  refine W_run 1 [(0, .slice p4305 x4303.length c4306), (1, .int .i64 x4308)] w (by kernel_rfl) ?_
  refine W_nil ?_
  refine N_then ?_
  refine G_seq ?_
  refine G_seq ?_
  refine G_region ?_
  refine W_run 1 [(0, .slice p4305 x4303.length c4306), (1, .int .i64 x4308), (5, .int .i64 0)] w (by kernel_rfl) ?_
  refine W_nil ?_
  refine N_then ?_
  obtain ⟨out4394, hw4395, hmo4396⟩ := gx_bind hm
  refine G_meet (fun a w' => ∃ (o4397 : Int), out4394 = .inl o4397 ∧ Mem [] w w' [] ∧ Sat Try.f26.ntmps [(1, .int .i64 o4397)] a) ?_ ?_
  · refine G_block ?_
    refine G_while (σ := Int × Int) (ρ := (Int) ⊕ (Int)) (fun s4387 a w' => Mem [] w w' [] ∧ Sat Try.f26.ntmps [(0, .slice p4305 x4303.length c4306), (1, .int .i64 s4387.1), (5, .int .i64 s4387.2)] a) hw4395 (fun a ha => ⟨M0.pick [] (by kernel_rfl), ha.sub (by kernel_rfl)⟩) ?_
    clear hm
    intro s4387 x4388 hm hout4389 a4390 w4391 ⟨M4392, hS4393⟩
    refine G_use hS4393 ?_
    refine G_seq ?_
    refine G_seq ?_
    refine G_region ?_
    refine W_run 4 [(0, .slice p4305 x4303.length c4306), (1, .int .i64 s4387.1), (5, .int .i64 s4387.2), (9, .bool (decide (s4387.2 < (x4303.length : Int))))] w4391 (by kernel_rfl) ?_
    refine W_nil ?_
    refine N_then ?_
    rcases gx_bif hm with ⟨hc4398, hm⟩ | ⟨hc4398, hm⟩
    · refine G_cond_t (b := (decide (s4387.2 < (x4303.length : Int)))) hc4398 (by kernel_rfl) ?_
      refine G_skip ?_
      refine N_then ?_
      refine G_seq ?_
      refine G_block ?_
      refine G_seq ?_
      refine G_seq ?_
      refine G_region ?_
      refine W_run 2 [(0, .slice p4305 x4303.length c4306), (1, .int .i64 s4387.1), (5, .int .i64 s4387.2), (12, .slice p4305 x4303.length c4306), (13, .int .i64 s4387.2)] w4391 (by kernel_rfl) ?_
      obtain ⟨y4399, hy4399, hm⟩ := gx_bind hm
      obtain ⟨zs4400, hz4401, hr4402, hi4403⟩ := id h4307
      obtain ⟨g4404, hg4405⟩ := gxIdx_fst hz4401 hy4399
      refine W_val (elemP p4305 (s4387.2.toNat * 3)) w4391 (by kernel_rfl) (E_index (E := deepBalloon.E) _ _ _ x4303.length c4306 .i64 s4387.2 3 (y := (y4399, g4404)) rfl (by kernel_rfl) (by kernel_rfl) (by kernel_rfl) (hr4402.mem0 M4392) (len_fst hz4401) hg4405) ?_
      refine W_val (elemP p4305 (s4387.2.toNat * 3 + 0)) w4391 (by kernel_rfl) (E_fieldE (E := deepBalloon.E) _ _ 0 (s4387.2.toNat * 3) 0 rfl (by kernel_rfl) (by kernel_rfl) (hr4402.mem0 M4392) hg4405) ?_
      refine W_val (.int .i64 y4399.Guest) w4391 (by kernel_rfl) (E_loadE (E := deepBalloon.E) _ _ false 1 s4387.2 0 (s4387.2.toNat * 3 + 0) (y4399, g4404) (.int .i64 y4399.Guest) rfl (by kernel_rfl) (by kernel_rfl) (by kernel_rfl) (hr4402.mem0 M4392) hg4405 rfl) ?_
      refine W_run 2 [(0, .slice p4305 x4303.length c4306), (1, .int .i64 s4387.1), (5, .int .i64 s4387.2), (18, .bool (y4399.Guest != s4387.1))] w4391 (by kernel_rfl) ?_
      refine W_nil ?_
      refine N_then ?_
      rcases gx_bif hm with ⟨hc4407, hm⟩ | ⟨hc4407, hm⟩
      · refine G_cond_t (b := (y4399.Guest != s4387.1)) hc4407 (by kernel_rfl) ?_
        refine G_seq ?_
        refine G_region ?_
        refine W_run 1 [(4, .int .i64 (-1))] w4391 (by kernel_rfl) ?_
        refine W_nil ?_
        refine N_then ?_
        refine G_ret ?_
        refine N_then_ret ?_
        refine N_block_ret ?_
        refine N_then_ret ?_
        refine N_then_ret ?_
        obtain rfl := Option.some.inj hm
        obtain rfl := hout4389 _ rfl
        have hm := hmo4396; simp only [Sum.elim_inr] at hm
        refine N_block_ret ?_
        refine N_meet_ret ?_
        refine N_then_ret ?_
        obtain rfl := Option.some.inj hm
        refine N_ret [.int .i64 (-1)] (RVs_cons (RV_tmp (by kernel_rfl)) RVs_nil) ?_
        exact ⟨rfl, M4392.pick [] (by kernel_rfl)⟩
      refine G_cond_f (b := (y4399.Guest != s4387.1)) hc4407 (by kernel_rfl) ?_
      refine G_skip ?_
      refine N_then ?_
      refine G_seq ?_
      refine G_region ?_
      refine W_run 3 [(0, .slice p4305 x4303.length c4306), (1, .int .i64 (w64 (s4387.1 + 1))), (5, .int .i64 s4387.2)] w4391 (by kernel_rfl) ?_
      refine W_nil ?_
      refine N_then ?_
      refine G_seq ?_
      refine G_seq ?_
      refine G_region ?_
      refine W_run 2 [(0, .slice p4305 x4303.length c4306), (1, .int .i64 (w64 (s4387.1 + 1))), (5, .int .i64 s4387.2), (21, .slice p4305 x4303.length c4306), (22, .int .i64 s4387.2)] w4391 (by kernel_rfl) ?_
      obtain ⟨y4408, hy4408, hm⟩ := gx_bind hm
      obtain ⟨g4409, hg4410⟩ := gxIdx_fst hz4401 hy4408
      refine W_val (elemP p4305 (s4387.2.toNat * 3)) w4391 (by kernel_rfl) (E_index (E := deepBalloon.E) _ _ _ x4303.length c4306 .i64 s4387.2 3 (y := (y4408, g4409)) rfl (by kernel_rfl) (by kernel_rfl) (by kernel_rfl) (hr4402.mem0 M4392) (len_fst hz4401) hg4410) ?_
      refine W_val (elemP p4305 (s4387.2.toNat * 3 + 1)) w4391 (by kernel_rfl) (E_fieldE (E := deepBalloon.E) _ _ 1 (s4387.2.toNat * 3) 1 rfl (by kernel_rfl) (by kernel_rfl) (hr4402.mem0 M4392) hg4410) ?_
      refine W_val (.int .i64 y4408.Goal) w4391 (by kernel_rfl) (E_loadE (E := deepBalloon.E) _ _ false 1 s4387.2 1 (s4387.2.toNat * 3 + 1) (y4408, g4409) (.int .i64 y4408.Goal) rfl (by kernel_rfl) (by kernel_rfl) (by kernel_rfl) (hr4402.mem0 M4392) hg4410 rfl) ?_
      refine W_run 2 [(0, .slice p4305 x4303.length c4306), (1, .int .i64 (w64 (s4387.1 + 1))), (5, .int .i64 s4387.2), (27, .bool (y4408.Goal != (w64 (s4387.1 + 1))))] w4391 (by kernel_rfl) ?_
      refine W_nil ?_
      refine N_then ?_
      rcases gx_bif hm with ⟨hc4412, hm⟩ | ⟨hc4412, hm⟩
      · refine G_cond_t (b := (y4408.Goal != (w64 (s4387.1 + 1)))) hc4412 (by kernel_rfl) ?_
        refine G_seq ?_
        refine G_region ?_
        refine W_run 1 [(4, .int .i64 (-1))] w4391 (by kernel_rfl) ?_
        refine W_nil ?_
        refine N_then ?_
        refine G_ret ?_
        refine N_then_ret ?_
        refine N_block_ret ?_
        refine N_then_ret ?_
        refine N_then_ret ?_
        obtain rfl := Option.some.inj hm
        obtain rfl := hout4389 _ rfl
        have hm := hmo4396; simp only [Sum.elim_inr] at hm
        refine N_block_ret ?_
        refine N_meet_ret ?_
        refine N_then_ret ?_
        obtain rfl := Option.some.inj hm
        refine N_ret [.int .i64 (-1)] (RVs_cons (RV_tmp (by kernel_rfl)) RVs_nil) ?_
        exact ⟨rfl, M4392.pick [] (by kernel_rfl)⟩
      refine G_cond_f (b := (y4408.Goal != (w64 (s4387.1 + 1)))) hc4412 (by kernel_rfl) ?_
      refine G_skip ?_
      refine N_then ?_
      refine G_seq ?_
      refine G_region ?_
      refine W_run 3 [(0, .slice p4305 x4303.length c4306), (1, .int .i64 (w64 ((w64 (s4387.1 + 1)) + 1))), (5, .int .i64 s4387.2)] w4391 (by kernel_rfl) ?_
      refine W_nil ?_
      refine N_then ?_
      refine G_seq ?_
      refine G_region ?_
      refine W_run 2 [(0, .slice p4305 x4303.length c4306), (1, .int .i64 (w64 ((w64 (s4387.1 + 1)) + 1))), (5, .int .i64 s4387.2), (30, .slice p4305 x4303.length c4306), (31, .int .i64 s4387.2)] w4391 (by kernel_rfl) ?_
      obtain ⟨y4413, hy4413, hm⟩ := gx_bind hm
      obtain ⟨g4414, hg4415⟩ := gxIdx_fst hz4401 hy4413
      refine W_val (elemP p4305 (s4387.2.toNat * 3)) w4391 (by kernel_rfl) (E_index (E := deepBalloon.E) _ _ _ x4303.length c4306 .i64 s4387.2 3 (y := (y4413, g4414)) rfl (by kernel_rfl) (by kernel_rfl) (by kernel_rfl) (hr4402.mem0 M4392) (len_fst hz4401) hg4415) ?_
      refine W_val (elemP p4305 (s4387.2.toNat * 3 + 2)) w4391 (by kernel_rfl) (E_fieldE (E := deepBalloon.E) _ _ 2 (s4387.2.toNat * 3) 2 rfl (by kernel_rfl) (by kernel_rfl) (hr4402.mem0 M4392) hg4415) ?_
      refine W_val (.slice ((g4414 0).1) y4413.Gave.length ((g4414 0).2)) w4391 (by kernel_rfl) (E_loadE (E := deepBalloon.E) _ _ false 1 s4387.2 2 (s4387.2.toNat * 3 + 2) (y4413, g4414) (.slice ((g4414 0).1) y4413.Gave.length ((g4414 0).2)) rfl (by kernel_rfl) (by kernel_rfl) (by kernel_rfl) (hr4402.mem0 M4392) hg4415 rfl) ?_
      refine W_run 1 [(0, .slice p4305 x4303.length c4306), (1, .int .i64 (w64 ((w64 (s4387.1 + 1)) + 1))), (5, .int .i64 s4387.2), (34, .slice ((g4414 0).1) y4413.Gave.length ((g4414 0).2)), (35, .int .i64 (w64 ((w64 (s4387.1 + 1)) + 1)))] w4391 (by kernel_rfl) ?_
      obtain ⟨r4417, hr4417, hm⟩ := gx_bind hm
      refine W_call 29 #[.slice ((g4414 0).1) y4413.Gave.length ((g4414 0).2), .int .i64 (w64 ((w64 (s4387.1 + 1)) + 1))] (by kernel_rfl) (by kernel_rfl) ?_
      refine (c_l_heldIntS w4391 y4413.Gave ((g4414 0).1) ((g4414 0).2) ((hi4403.mem0 M4392).at_ hg4415 0 ⟨Int, Gx.encI, y4413.Gave, (g4414 0).1, (g4414 0).2⟩ (by kernel_rfl)) (w64 ((w64 (s4387.1 + 1)) + 1)) hr4417).mono ?_
      rintro e_ w4418 ⟨rfl, K4419⟩
      have M4420 := M4392.call0 K4419
      refine ⟨_, rfl, ?_⟩
      refine W_run 1 [(0, .slice p4305 x4303.length c4306), (1, .int .i64 r4417), (5, .int .i64 s4387.2)] w4418 (by kernel_rfl) ?_
      refine W_nil ?_
      refine N_then ?_
      refine G_seq ?_
      refine G_region ?_
      refine W_run 2 [(0, .slice p4305 x4303.length c4306), (1, .int .i64 r4417), (5, .int .i64 s4387.2), (38, .bool (decide (r4417 < 0)))] w4418 (by kernel_rfl) ?_
      refine W_nil ?_
      refine N_then ?_
      rcases gx_bif hm with ⟨hc4421, hm⟩ | ⟨hc4421, hm⟩
      · refine G_cond_t (b := (decide (r4417 < 0))) hc4421 (by kernel_rfl) ?_
        refine G_seq ?_
        refine G_region ?_
        refine W_run 1 [(4, .int .i64 (-1))] w4418 (by kernel_rfl) ?_
        refine W_nil ?_
        refine N_then ?_
        refine G_ret ?_
        refine N_block_ret ?_
        refine N_then_ret ?_
        refine N_then_ret ?_
        obtain rfl := Option.some.inj hm
        obtain rfl := hout4389 _ rfl
        have hm := hmo4396; simp only [Sum.elim_inr] at hm
        refine N_block_ret ?_
        refine N_meet_ret ?_
        refine N_then_ret ?_
        obtain rfl := Option.some.inj hm
        refine N_ret [.int .i64 (-1)] (RVs_cons (RV_tmp (by kernel_rfl)) RVs_nil) ?_
        exact ⟨rfl, M4420.pick [] (by kernel_rfl)⟩
      refine G_cond_f (b := (decide (r4417 < 0))) hc4421 (by kernel_rfl) ?_
      refine G_skip ?_
      refine N_block ?_
      refine N_then ?_
      refine G_region ?_
      refine W_run 3 [(0, .slice p4305 x4303.length c4306), (1, .int .i64 r4417), (5, .int .i64 (w64 (s4387.2 + 1)))] w4418 (by kernel_rfl) ?_
      refine W_nil ?_
      obtain rfl := Option.some.inj hm
      exact N_loop fun a ha => ⟨_, rfl, M4420.pick [] (by kernel_rfl), ha.sub (by kernel_rfl)⟩
    refine G_cond_f (b := (decide (s4387.2 < (x4303.length : Int)))) hc4398 (by kernel_rfl) ?_
    refine G_exit ?_
    refine N_then_exit ?_
    refine N_then_exit ?_
    refine N_block_eq ?_
    obtain rfl := Option.some.inj hm
    obtain rfl := hout4389 _ rfl
    exact N_meet fun a ha => ⟨_, rfl, M4392.pick [] (by kernel_rfl), ha.sub (by kernel_rfl)⟩
  intro a4422 w4423 ⟨o4397, hout_, M4424, hS4425⟩
  refine N_use hS4425 ?_
  subst hout_
  have hm := hmo4396; simp only [Sum.elim_inl] at hm
  refine N_then ?_
  refine G_seq ?_
  refine G_region ?_
  refine W_run 2 [(4, .int .i64 o4397)] w4423 (by kernel_rfl) ?_
  refine W_nil ?_
  refine N_then ?_
  refine G_ret ?_
  obtain rfl := Option.some.inj hm
  refine N_ret [.int .i64 o4397] (RVs_cons (RV_tmp (by kernel_rfl)) RVs_nil) ?_
  exact ⟨rfl, M4424.pick [] (by kernel_rfl)⟩
theorem c_l_FnExactSetGoal (w : World) (x2718 : List Int) (p2720 : Option Addr) (c2721 : Nat) (h2722 : rdS Gx.encI w x2718 p2720 c2721) (x2723 : List Balloon) (p2725 : Option Addr) (c2726 : Nat) (h2727 : rdD deepBalloon w x2723 p2725 c2726) (x2728 : Int) (x2729 : Int) {r : Bool} (hm : M.l_FnExactSetGoal x2718 x2723 x2728 x2729 = some r) :
    Calls Try.prog 5 #[.slice p2720 x2718.length c2721, .slice p2725 x2723.length c2726, .int .i64 x2728, .int .i64 x2729] w fun e w' => e = .returned (.bool r) ∧ Mem [] w w' [] := by
  unfold M.l_FnExactSetGoal at hm
  refine C_enter Try.func5 rfl (by kernel_rfl) ?_
  have M0 := Mem.refl [] w
  refine G_seq ?_
  refine G_region ?_
  refine W_run 1 [(0, .slice p2720 x2718.length c2721), (1, .slice p2725 x2723.length c2726), (2, .int .i64 x2728), (3, .int .i64 x2729)] w (by kernel_rfl) ?_
  refine W_nil ?_
  refine N_then ?_
  refine G_seq ?_
  refine G_seq ?_
  refine G_region ?_
  refine W_run 3 [(0, .slice p2720 x2718.length c2721), (1, .slice p2725 x2723.length c2726), (2, .int .i64 x2728), (3, .int .i64 x2729), (23, .bool (decide ((x2718.length : Int) > 1048576)))] w (by kernel_rfl) ?_
  refine W_nil ?_
  refine N_then ?_
  rcases gx_bif hm with ⟨hc2730, hm⟩ | ⟨hc2730, hm⟩
  · refine G_cond_t (b := (decide ((x2718.length : Int) > 1048576))) hc2730 (by kernel_rfl) ?_
    refine G_seq ?_
    refine G_region ?_
    refine W_run 1 [(8, .bool true)] w (by kernel_rfl) ?_
    refine W_nil ?_
    refine N_then ?_
    refine G_ret ?_
    refine N_then_ret ?_
    obtain rfl := Option.some.inj hm
    refine N_ret [.bool true] (RVs_cons (RV_tmp (by kernel_rfl)) RVs_nil) ?_
    exact ⟨rfl, M0.pick [] (by kernel_rfl)⟩
  refine G_cond_f (b := (decide ((x2718.length : Int) > 1048576))) hc2730 (by kernel_rfl) ?_
  refine G_skip ?_
  refine N_then ?_
  refine G_seq ?_
  refine G_region ?_
  refine W_run 1 [(0, .slice p2720 x2718.length c2721), (1, .slice p2725 x2723.length c2726), (2, .int .i64 x2728), (3, .int .i64 x2729), (9, .int .i64 1048576)] w (by kernel_rfl) ?_
  refine W_nil ?_
  refine N_then ?_
  refine G_seq ?_
  refine G_region ?_
  refine W_run 2 [(0, .slice p2720 x2718.length c2721), (1, .slice p2725 x2723.length c2726), (2, .int .i64 x2728), (3, .int .i64 x2729), (9, .int .i64 1048576), (24, .slice p2725 x2723.length c2726), (25, .int .i64 1048576)] w (by kernel_rfl) ?_
  obtain ⟨r2731, hr2731, hm⟩ := gx_bind hm
  refine W_call 13 #[.slice p2725 x2723.length c2726, .int .i64 1048576] (by kernel_rfl) (by kernel_rfl) ?_
  refine (c_l_szBalloonS w x2723 p2725 c2726 (h2727.mem0 M0) 1048576 hr2731).mono ?_
  rintro e_ w2732 ⟨rfl, K2733⟩
  have M2734 := M0.call0 K2733
  refine ⟨_, rfl, ?_⟩
  refine W_run 1 [(0, .slice p2720 x2718.length c2721), (1, .slice p2725 x2723.length c2726), (2, .int .i64 x2728), (3, .int .i64 x2729), (9, .int .i64 r2731)] w2732 (by kernel_rfl) ?_
  refine W_nil ?_
  refine N_then ?_
  refine G_seq ?_
  refine G_seq ?_
  refine G_region ?_
  refine W_run 2 [(0, .slice p2720 x2718.length c2721), (1, .slice p2725 x2723.length c2726), (2, .int .i64 x2728), (3, .int .i64 x2729), (28, .bool (decide (r2731 < 0)))] w2732 (by kernel_rfl) ?_
  refine W_nil ?_
  refine N_then ?_
  rcases gx_bif hm with ⟨hc2735, hm⟩ | ⟨hc2735, hm⟩
  · refine G_cond_t (b := (decide (r2731 < 0))) hc2735 (by kernel_rfl) ?_
    refine G_seq ?_
    refine G_region ?_
    refine W_run 1 [(8, .bool true)] w2732 (by kernel_rfl) ?_
    refine W_nil ?_
    refine N_then ?_
    refine G_ret ?_
    refine N_then_ret ?_
    obtain rfl := Option.some.inj hm
    refine N_ret [.bool true] (RVs_cons (RV_tmp (by kernel_rfl)) RVs_nil) ?_
    exact ⟨rfl, M2734.pick [] (by kernel_rfl)⟩
  refine G_cond_f (b := (decide (r2731 < 0))) hc2735 (by kernel_rfl) ?_
  refine G_skip ?_
  refine N_then ?_
  refine G_seq ?_
  refine G_region ?_
  refine W_run 1 [(0, .slice p2720 x2718.length c2721), (1, .slice p2725 x2723.length c2726), (2, .int .i64 x2728), (3, .int .i64 x2729), (30, .slice p2720 x2718.length c2721)] w2732 (by kernel_rfl) ?_
  obtain ⟨r2736, hr2736, hm⟩ := gx_bind hm
  refine W_call 15 #[.slice p2720 x2718.length c2721] (by kernel_rfl) (by kernel_rfl) ?_
  refine (c_l_toIntS w2732 x2718 p2720 c2721 (h2722.mem0 M2734) hr2736).mono ?_
  rintro e_ w2742 ⟨p2738, c2739, sg2740, rfl, ho2741, K2743⟩
  have M2744 := M2734.call K2743
  refine ⟨_, rfl, ?_⟩
  refine W_run 1 [(0, .slice p2720 x2718.length c2721), (1, .slice p2725 x2723.length c2726), (2, .int .i64 x2728), (3, .int .i64 x2729), (31, .slice p2738 r2736.length c2739), (32, .slice p2725 x2723.length c2726)] w2742 (by kernel_rfl) ?_
  obtain ⟨r2745, hr2745, hm⟩ := gx_bind hm
  refine W_call 16 #[.slice p2725 x2723.length c2726] (by kernel_rfl) (by kernel_rfl) ?_
  refine (c_l_toBalloonS w2742 x2723 p2725 c2726 (h2727.mem0 M2744) hr2745).mono ?_
  rintro e_ w2752 ⟨p2747, c2748, sg2749, sg2750, rfl, ho2751, K2753⟩
  have M2754 := M2744.call K2753
  refine ⟨_, rfl, ?_⟩
  refine W_run 2 [(0, .slice p2720 x2718.length c2721), (1, .slice p2725 x2723.length c2726), (2, .int .i64 x2728), (3, .int .i64 x2729), (31, .slice p2738 r2736.length c2739), (33, .slice p2747 r2745.length c2748), (34, .int .i64 x2728), (35, .int .i64 x2729)] w2752 (by kernel_rfl) ?_
  obtain ⟨r3484, hr3484, hm⟩ := gx_bind hm
  refine W_call 22 #[.slice p2738 r2736.length c2739, .slice p2747 r2745.length c2748, .int .i64 x2728, .int .i64 x2729] (by kernel_rfl) (by kernel_rfl) ?_
  refine (c_s_SetGoal w2752 r2736 p2738 c2739 (ho2741.rd M2754 0 (by kernel_rfl)) r2745 p2747 c2748 (ho2751.rd M2754 1 (by kernel_rfl) 2 (by kernel_rfl)) x2728 x2729 hr3484).mono ?_
  rintro e_ w3491 ⟨p3486, c3487, sg3488, sg3489, rfl, ho3490, K3492⟩
  have M3493 := M2754.call K3492
  refine ⟨_, rfl, ?_⟩
  refine W_run 5 [(0, .slice p2720 x2718.length c2721), (1, .slice p2725 x2723.length c2726), (2, .int .i64 x2728), (3, .int .i64 x2729), (10, .slice p3486 r3484.1.length c3487), (11, .bool r3484.2)] w3491 (by kernel_rfl) ?_
  refine W_nil ?_
  refine N_then ?_
  refine G_seq ?_
  refine G_region ?_
  refine W_run 1 [(0, .slice p2720 x2718.length c2721), (1, .slice p2725 x2723.length c2726), (2, .int .i64 x2728), (3, .int .i64 x2729), (10, .slice p3486 r3484.1.length c3487), (11, .bool r3484.2), (39, .slice p2720 x2718.length c2721)] w3491 (by kernel_rfl) ?_
  obtain ⟨r3494, hr3494, hm⟩ := gx_bind hm
  refine W_call 15 #[.slice p2720 x2718.length c2721] (by kernel_rfl) (by kernel_rfl) ?_
  refine (c_l_toIntS w3491 x2718 p2720 c2721 (h2722.mem0 M3493) hr3494).mono ?_
  rintro e_ w3500 ⟨p3496, c3497, sg3498, rfl, ho3499, K3501⟩
  have M3502 := M3493.call K3501
  refine ⟨_, rfl, ?_⟩
  refine W_run 1 [(0, .slice p2720 x2718.length c2721), (1, .slice p2725 x2723.length c2726), (2, .int .i64 x2728), (3, .int .i64 x2729), (10, .slice p3486 r3484.1.length c3487), (11, .bool r3484.2), (12, .slice p3496 r3494.length c3497)] w3500 (by kernel_rfl) ?_
  refine W_nil ?_
  refine N_then ?_
  refine G_seq ?_
  refine G_region ?_
  refine W_run 1 [(0, .slice p2720 x2718.length c2721), (1, .slice p2725 x2723.length c2726), (2, .int .i64 x2728), (3, .int .i64 x2729), (10, .slice p3486 r3484.1.length c3487), (11, .bool r3484.2), (12, .slice p3496 r3494.length c3497), (41, .slice p2725 x2723.length c2726)] w3500 (by kernel_rfl) ?_
  obtain ⟨r3503, hr3503, hm⟩ := gx_bind hm
  refine W_call 16 #[.slice p2725 x2723.length c2726] (by kernel_rfl) (by kernel_rfl) ?_
  refine (c_l_toBalloonS w3500 x2723 p2725 c2726 (h2727.mem0 M3502) hr3503).mono ?_
  rintro e_ w3510 ⟨p3505, c3506, sg3507, sg3508, rfl, ho3509, K3511⟩
  have M3512 := M3502.call K3511
  refine ⟨_, rfl, ?_⟩
  refine W_run 1 [(0, .slice p2720 x2718.length c2721), (1, .slice p2725 x2723.length c2726), (2, .int .i64 x2728), (3, .int .i64 x2729), (10, .slice p3486 r3484.1.length c3487), (11, .bool r3484.2), (12, .slice p3496 r3494.length c3497), (13, .slice p3505 r3503.length c3506)] w3510 (by kernel_rfl) ?_
  refine W_nil ?_
  refine N_then ?_
  refine G_seq ?_
  refine G_region ?_
  refine W_run 4 [(0, .slice p2720 x2718.length c2721), (1, .slice p2725 x2723.length c2726), (2, .int .i64 x2728), (3, .int .i64 x2729), (10, .slice p3486 r3484.1.length c3487), (11, .bool r3484.2), (12, .slice p3496 r3494.length c3497), (13, .slice p3505 r3503.length c3506), (44, .slice p3496 r3494.length c3497), (45, .slice p3505 r3503.length c3506), (46, .int .i64 x2728), (47, .int .i64 x2729)] w3510 (by kernel_rfl) ?_
  obtain ⟨r3927, hr3927, hm⟩ := gx_bind hm
  refine W_call 23 #[.slice p3496 r3494.length c3497, .slice p3505 r3503.length c3506, .int .i64 x2728, .int .i64 x2729] (by kernel_rfl) (by kernel_rfl) ?_
  refine (c_i_SetGoal w3510 r3494 p3496 c3497 (ho3499.rd M3512 5 (by kernel_rfl)) r3503 p3505 c3506 (ho3509.rd M3512 6 (by kernel_rfl) 7 (by kernel_rfl)) x2728 x2729 hr3927).mono ?_
  rintro e_ w3934 ⟨p3929, c3930, sg3931, sg3932, rfl, ho3933, K3935⟩
  have M3936 := M3512.call K3935
  refine ⟨_, rfl, ?_⟩
  refine W_run 5 [(0, .slice p2720 x2718.length c2721), (1, .slice p2725 x2723.length c2726), (2, .int .i64 x2728), (3, .int .i64 x2729), (10, .slice p3486 r3484.1.length c3487), (11, .bool r3484.2), (12, .slice p3496 r3494.length c3497), (13, .slice p3505 r3503.length c3506), (14, .slice p3929 r3927.1.length c3930), (15, .bool r3927.2)] w3934 (by kernel_rfl) ?_
  refine W_nil ?_
  refine N_then ?_
  refine G_seq ?_
  refine G_seq ?_
  obtain ⟨o3942, ho3943, hm3944⟩ := gx_bind hm
  refine G_meet (fun a w' => Mem [] w w' [sg3488, sg3489, sg3498, sg3507, sg3508, sg3931, sg3932] ∧ Sat Try.f5.ntmps [(0, .slice p2720 x2718.length c2721), (1, .slice p2725 x2723.length c2726), (2, .int .i64 x2728), (3, .int .i64 x2729), (10, .slice p3486 r3484.1.length c3487), (11, .bool r3484.2), (12, .slice p3496 r3494.length c3497), (13, .slice p3505 r3503.length c3506), (14, .slice p3929 r3927.1.length c3930), (15, .bool r3927.2), (59, .bool o3942)] a) ?_ ?_
  · have hm := ho3943
    refine G_region ?_
    refine W_run 2 [(0, .slice p2720 x2718.length c2721), (1, .slice p2725 x2723.length c2726), (2, .int .i64 x2728), (3, .int .i64 x2729), (10, .slice p3486 r3484.1.length c3487), (11, .bool r3484.2), (12, .slice p3496 r3494.length c3497), (13, .slice p3505 r3503.length c3506), (14, .slice p3929 r3927.1.length c3930), (15, .bool r3927.2), (51, .slice p3929 r3927.1.length c3930), (52, .slice p3486 r3484.1.length c3487)] w3934 (by kernel_rfl) ?_
    obtain ⟨r3945, hr3945, hm⟩ := gx_bind hm
    refine W_call 19 #[.slice p3929 r3927.1.length c3930, .slice p3486 r3484.1.length c3487] (by kernel_rfl) (by kernel_rfl) ?_
    refine (c_l_eqBalloonS w3934 r3927.1 p3929 c3930 (ho3933.rd M3936 8 (by kernel_rfl) 9 (by kernel_rfl)) r3484.1 p3486 c3487 (ho3490.rd M3936 3 (by kernel_rfl) 4 (by kernel_rfl)) hr3945).mono ?_
    rintro e_ w3946 ⟨rfl, K3947⟩
    have M3948 := M3936.call0 K3947
    refine ⟨_, rfl, ?_⟩
    refine W_run 2 [(0, .slice p2720 x2718.length c2721), (1, .slice p2725 x2723.length c2726), (2, .int .i64 x2728), (3, .int .i64 x2729), (10, .slice p3486 r3484.1.length c3487), (11, .bool r3484.2), (12, .slice p3496 r3494.length c3497), (13, .slice p3505 r3503.length c3506), (14, .slice p3929 r3927.1.length c3930), (15, .bool r3927.2), (55, .bool (!r3945))] w3946 (by kernel_rfl) ?_
    rcases gx_bif hm with ⟨hc3949, hm⟩ | ⟨hc3949, hm⟩
    · refine W_known 55 true (by kernel_rfl) hc3949 ?_
      refine W_run 4 [(0, .slice p2720 x2718.length c2721), (1, .slice p2725 x2723.length c2726), (2, .int .i64 x2728), (3, .int .i64 x2729), (10, .slice p3486 r3484.1.length c3487), (11, .bool r3484.2), (12, .slice p3496 r3494.length c3497), (13, .slice p3505 r3503.length c3506), (14, .slice p3929 r3927.1.length c3930), (15, .bool r3927.2), (59, .bool true)] w3946 (by kernel_rfl) ?_
      refine W_nil ?_
      obtain rfl := Option.some.inj hm
      exact N_meet fun a ha => ⟨M3948.pick [3, 4, 5, 6, 7, 8, 9] (by kernel_rfl), ha.sub (by kernel_rfl)⟩
    refine W_known 55 false (by kernel_rfl) hc3949 ?_
    refine W_run 4 [(0, .slice p2720 x2718.length c2721), (1, .slice p2725 x2723.length c2726), (2, .int .i64 x2728), (3, .int .i64 x2729), (10, .slice p3486 r3484.1.length c3487), (11, .bool r3484.2), (12, .slice p3496 r3494.length c3497), (13, .slice p3505 r3503.length c3506), (14, .slice p3929 r3927.1.length c3930), (15, .bool r3927.2), (59, .bool (!(r3927.2 == r3484.2)))] w3946 (by kernel_rfl) ?_
    refine W_nil ?_
    obtain rfl := Option.some.inj hm
    exact N_meet fun a ha => ⟨M3948.pick [3, 4, 5, 6, 7, 8, 9] (by kernel_rfl), ha.sub (by kernel_rfl)⟩
  intro a3952 w3950 ⟨M3951, hS3953⟩
  refine N_use hS3953 ?_
  have hm := hm3944
  refine N_then ?_
  rcases gx_bif hm with ⟨hc3954, hm⟩ | ⟨hc3954, hm⟩
  · refine G_cond_t (b := o3942) hc3954 (by kernel_rfl) ?_
    refine G_seq ?_
    refine G_region ?_
    refine W_run 1 [(8, .bool false)] w3950 (by kernel_rfl) ?_
    refine W_nil ?_
    refine N_then ?_
    refine G_ret ?_
    refine N_then_ret ?_
    obtain rfl := Option.some.inj hm
    refine N_ret [.bool false] (RVs_cons (RV_tmp (by kernel_rfl)) RVs_nil) ?_
    exact ⟨rfl, M3951.pick [] (by kernel_rfl)⟩
  refine G_cond_f (b := o3942) hc3954 (by kernel_rfl) ?_
  refine G_skip ?_
  refine N_then ?_
  refine G_seq ?_
  refine G_seq ?_
  refine G_region ?_
  refine W_run 2 [(0, .slice p2720 x2718.length c2721), (1, .slice p2725 x2723.length c2726), (2, .int .i64 x2728), (3, .int .i64 x2729), (10, .slice p3486 r3484.1.length c3487), (11, .bool r3484.2), (12, .slice p3496 r3494.length c3497), (13, .slice p3505 r3503.length c3506), (14, .slice p3929 r3927.1.length c3930), (15, .bool r3927.2), (60, .slice p3496 r3494.length c3497), (61, .slice p2720 x2718.length c2721)] w3950 (by kernel_rfl) ?_
  obtain ⟨r3955, hr3955, hm⟩ := gx_bind hm
  refine W_call 15 #[.slice p2720 x2718.length c2721] (by kernel_rfl) (by kernel_rfl) ?_
  refine (c_l_toIntS w3950 x2718 p2720 c2721 (h2722.mem0 M3951) hr3955).mono ?_
  rintro e_ w3961 ⟨p3957, c3958, sg3959, rfl, ho3960, K3962⟩
  have M3963 := M3951.call K3962
  refine ⟨_, rfl, ?_⟩
  obtain ⟨r3964, hr3964, hm⟩ := gx_bind hm
  refine W_call 18 #[.slice p3496 r3494.length c3497, .slice p3957 r3955.length c3958] (by kernel_rfl) (by kernel_rfl) ?_
  refine (c_l_eqIntS w3961 r3494 p3496 c3497 (ho3499.rd M3963 2 (by kernel_rfl)) r3955 p3957 c3958 (ho3960.rd M3963 7 (by kernel_rfl)) hr3964).mono ?_
  rintro e_ w3965 ⟨rfl, K3966⟩
  have M3967 := M3963.call0 K3966
  refine ⟨_, rfl, ?_⟩
  refine W_run 1 [(0, .slice p2720 x2718.length c2721), (1, .slice p2725 x2723.length c2726), (2, .int .i64 x2728), (3, .int .i64 x2729), (10, .slice p3486 r3484.1.length c3487), (11, .bool r3484.2), (12, .slice p3496 r3494.length c3497), (13, .slice p3505 r3503.length c3506), (14, .slice p3929 r3927.1.length c3930), (15, .bool r3927.2), (64, .bool (!r3964))] w3965 (by kernel_rfl) ?_
  refine W_nil ?_
  refine N_then ?_
  rcases gx_bif hm with ⟨hc3968, hm⟩ | ⟨hc3968, hm⟩
  · refine G_cond_t (b := (!r3964)) hc3968 (by kernel_rfl) ?_
    refine G_seq ?_
    refine G_region ?_
    refine W_run 1 [(8, .bool false)] w3965 (by kernel_rfl) ?_
    refine W_nil ?_
    refine N_then ?_
    refine G_ret ?_
    refine N_then_ret ?_
    obtain rfl := Option.some.inj hm
    refine N_ret [.bool false] (RVs_cons (RV_tmp (by kernel_rfl)) RVs_nil) ?_
    exact ⟨rfl, M3967.pick [] (by kernel_rfl)⟩
  refine G_cond_f (b := (!r3964)) hc3968 (by kernel_rfl) ?_
  refine G_skip ?_
  refine N_then ?_
  refine G_seq ?_
  refine G_seq ?_
  refine G_region ?_
  refine W_run 2 [(0, .slice p2720 x2718.length c2721), (1, .slice p2725 x2723.length c2726), (2, .int .i64 x2728), (3, .int .i64 x2729), (10, .slice p3486 r3484.1.length c3487), (11, .bool r3484.2), (12, .slice p3496 r3494.length c3497), (13, .slice p3505 r3503.length c3506), (14, .slice p3929 r3927.1.length c3930), (15, .bool r3927.2), (65, .slice p3505 r3503.length c3506), (66, .slice p2725 x2723.length c2726)] w3965 (by kernel_rfl) ?_
  obtain ⟨r3969, hr3969, hm⟩ := gx_bind hm
  refine W_call 16 #[.slice p2725 x2723.length c2726] (by kernel_rfl) (by kernel_rfl) ?_
  refine (c_l_toBalloonS w3965 x2723 p2725 c2726 (h2727.mem0 M3967) hr3969).mono ?_
  rintro e_ w3976 ⟨p3971, c3972, sg3973, sg3974, rfl, ho3975, K3977⟩
  have M3978 := M3967.call K3977
  refine ⟨_, rfl, ?_⟩
  obtain ⟨r3979, hr3979, hm⟩ := gx_bind hm
  refine W_call 19 #[.slice p3505 r3503.length c3506, .slice p3971 r3969.length c3972] (by kernel_rfl) (by kernel_rfl) ?_
  refine (c_l_eqBalloonS w3976 r3503 p3505 c3506 (ho3509.rd M3978 3 (by kernel_rfl) 4 (by kernel_rfl)) r3969 p3971 c3972 (ho3975.rd M3978 8 (by kernel_rfl) 9 (by kernel_rfl)) hr3979).mono ?_
  rintro e_ w3980 ⟨rfl, K3981⟩
  have M3982 := M3978.call0 K3981
  refine ⟨_, rfl, ?_⟩
  refine W_run 1 [(0, .slice p2720 x2718.length c2721), (1, .slice p2725 x2723.length c2726), (2, .int .i64 x2728), (3, .int .i64 x2729), (10, .slice p3486 r3484.1.length c3487), (11, .bool r3484.2), (12, .slice p3496 r3494.length c3497), (13, .slice p3505 r3503.length c3506), (14, .slice p3929 r3927.1.length c3930), (15, .bool r3927.2), (69, .bool (!r3979))] w3980 (by kernel_rfl) ?_
  refine W_nil ?_
  refine N_then ?_
  rcases gx_bif hm with ⟨hc3983, hm⟩ | ⟨hc3983, hm⟩
  · refine G_cond_t (b := (!r3979)) hc3983 (by kernel_rfl) ?_
    refine G_seq ?_
    refine G_region ?_
    refine W_run 1 [(8, .bool false)] w3980 (by kernel_rfl) ?_
    refine W_nil ?_
    refine N_then ?_
    refine G_ret ?_
    refine N_then_ret ?_
    obtain rfl := Option.some.inj hm
    refine N_ret [.bool false] (RVs_cons (RV_tmp (by kernel_rfl)) RVs_nil) ?_
    exact ⟨rfl, M3982.pick [] (by kernel_rfl)⟩
  refine G_cond_f (b := (!r3979)) hc3983 (by kernel_rfl) ?_
  refine G_skip ?_
  refine N_then ?_
  refine G_seq ?_
  refine G_region ?_
  refine W_run 1 [(0, .slice p2720 x2718.length c2721), (1, .slice p2725 x2723.length c2726), (2, .int .i64 x2728), (3, .int .i64 x2729), (10, .slice p3486 r3484.1.length c3487), (11, .bool r3484.2), (12, .slice p3496 r3494.length c3497), (13, .slice p3505 r3503.length c3506), (14, .slice p3929 r3927.1.length c3930), (15, .bool r3927.2), (16, .int .i64 1)] w3980 (by kernel_rfl) ?_
  refine W_nil ?_
  refine N_then ?_
  refine G_seq ?_
  refine G_region ?_
  refine W_run 2 [(0, .slice p2720 x2718.length c2721), (1, .slice p2725 x2723.length c2726), (2, .int .i64 x2728), (3, .int .i64 x2729), (10, .slice p3486 r3484.1.length c3487), (11, .bool r3484.2), (13, .slice p3505 r3503.length c3506), (14, .slice p3929 r3927.1.length c3930), (15, .bool r3927.2), (16, .int .i64 1), (70, .slice p3496 r3494.length c3497), (71, .int .i64 1)] w3980 (by kernel_rfl) ?_
  obtain ⟨r4034, hr4034, hm⟩ := gx_bind hm
  refine W_call 24 #[.slice p3496 r3494.length c3497, .int .i64 1] (by kernel_rfl) (by kernel_rfl) ?_
  refine (c_l_markIntS w3980 r3494 p3496 c3497 sg3498 ho3499 1 (M3982.hasPick [2]) (M3982.nodupPick [2] (by kernel_rfl)) hr4034).mono ?_
  rintro e_ w4038 ⟨sg4035, rfl, ho4036, hl4037, K4039⟩
  have M4040 := M3982.callF' [2] [0, 1, 3, 4, 5, 6, 7, 8, 9] (by kernel_rfl) K4039
  refine ⟨_, rfl, ?_⟩
  refine W_conv 70 (.slice p3496 r3494.length c3497) (.slice p3496 r4034.2.length c3497) (by kernel_rfl) (by first | rw [hl4037] | rw [hl4037]) ?_
  refine W_run 1 [(0, .slice p2720 x2718.length c2721), (1, .slice p2725 x2723.length c2726), (2, .int .i64 x2728), (3, .int .i64 x2729), (10, .slice p3486 r3484.1.length c3487), (11, .bool r3484.2), (13, .slice p3505 r3503.length c3506), (14, .slice p3929 r3927.1.length c3930), (15, .bool r3927.2), (16, .int .i64 r4034.1)] w4038 (by kernel_rfl) ?_
  refine W_nil ?_
  refine N_then ?_
  refine G_seq ?_
  refine G_region ?_
  refine W_run 2 [(0, .slice p2720 x2718.length c2721), (1, .slice p2725 x2723.length c2726), (2, .int .i64 x2728), (3, .int .i64 x2729), (10, .slice p3486 r3484.1.length c3487), (11, .bool r3484.2), (14, .slice p3929 r3927.1.length c3930), (15, .bool r3927.2), (16, .int .i64 r4034.1), (73, .slice p3505 r3503.length c3506), (74, .int .i64 r4034.1)] w4038 (by kernel_rfl) ?_
  obtain ⟨r4267, hr4267, hm⟩ := gx_bind hm
  refine W_call 25 #[.slice p3505 r3503.length c3506, .int .i64 r4034.1] (by kernel_rfl) (by kernel_rfl) ?_
  refine (c_l_markBalloonS w4038 r3503 p3505 c3506 sg3507 sg3508 ho3509 r4034.1 (M4040.hasPick [2, 3]) (M4040.nodupPick [2, 3] (by kernel_rfl)) hr4267).mono ?_
  rintro e_ w4272 ⟨sg4268, sg4269, rfl, ho4270, hl4271, K4273⟩
  have M4274 := M4040.callF' [2, 3] [0, 1, 4, 5, 6, 7, 8, 9] (by kernel_rfl) K4273
  refine ⟨_, rfl, ?_⟩
  refine W_conv 73 (.slice p3505 r3503.length c3506) (.slice p3505 r4267.2.length c3506) (by kernel_rfl) (by first | rw [hl4271] | rw [hl4271]) ?_
  refine W_run 1 [(0, .slice p2720 x2718.length c2721), (1, .slice p2725 x2723.length c2726), (2, .int .i64 x2728), (3, .int .i64 x2729), (10, .slice p3486 r3484.1.length c3487), (11, .bool r3484.2), (14, .slice p3929 r3927.1.length c3930), (15, .bool r3927.2), (16, .int .i64 r4267.1)] w4272 (by kernel_rfl) ?_
  refine W_nil ?_
  refine N_then ?_
  refine G_seq ?_
  refine G_seq ?_
  obtain ⟨o4281, ho4282, hm4283⟩ := gx_bind hm
  refine G_meet (fun a w' => Mem [] w w' [sg3488, sg3489, sg3931, sg3932] ∧ Sat Try.f5.ntmps [(0, .slice p2720 x2718.length c2721), (1, .slice p2725 x2723.length c2726), (2, .int .i64 x2728), (3, .int .i64 x2729), (10, .slice p3486 r3484.1.length c3487), (11, .bool r3484.2), (14, .slice p3929 r3927.1.length c3930), (88, .bool o4281)] a) ?_ ?_
  · have hm := ho4282
    refine G_region ?_
    refine W_run 3 [(0, .slice p2720 x2718.length c2721), (1, .slice p2725 x2723.length c2726), (2, .int .i64 x2728), (3, .int .i64 x2729), (10, .slice p3486 r3484.1.length c3487), (11, .bool r3484.2), (14, .slice p3929 r3927.1.length c3930), (15, .bool r3927.2), (78, .bool (decide (r4267.1 < 0)))] w4272 (by kernel_rfl) ?_
    rcases gx_bif hm with ⟨hc4284, hm⟩ | ⟨hc4284, hm⟩
    · refine W_known 78 true (by kernel_rfl) hc4284 ?_
      refine W_run 10 [(0, .slice p2720 x2718.length c2721), (1, .slice p2725 x2723.length c2726), (2, .int .i64 x2728), (3, .int .i64 x2729), (10, .slice p3486 r3484.1.length c3487), (11, .bool r3484.2), (14, .slice p3929 r3927.1.length c3930), (88, .bool true)] w4272 (by kernel_rfl) ?_
      refine W_nil ?_
      obtain rfl := Option.some.inj hm
      exact N_meet fun a ha => ⟨M4274.pick [0, 1, 2, 3] (by kernel_rfl), ha.sub (by kernel_rfl)⟩
    refine W_known 78 false (by kernel_rfl) hc4284 ?_
    refine W_run 2 [(0, .slice p2720 x2718.length c2721), (1, .slice p2725 x2723.length c2726), (2, .int .i64 x2728), (3, .int .i64 x2729), (10, .slice p3486 r3484.1.length c3487), (11, .bool r3484.2), (14, .slice p3929 r3927.1.length c3930), (15, .bool r3927.2), (78, .bool false), (79, .slice p3929 r3927.1.length c3930), (80, .slice p3486 r3484.1.length c3487)] w4272 (by kernel_rfl) ?_
    obtain ⟨r4285, hr4285, hm⟩ := gx_bind hm
    refine W_call 19 #[.slice p3929 r3927.1.length c3930, .slice p3486 r3484.1.length c3487] (by kernel_rfl) (by kernel_rfl) ?_
    refine (c_l_eqBalloonS w4272 r3927.1 p3929 c3930 (ho3933.rd M4274 2 (by kernel_rfl) 3 (by kernel_rfl)) r3484.1 p3486 c3487 (ho3490.rd M4274 0 (by kernel_rfl) 1 (by kernel_rfl)) hr4285).mono ?_
    rintro e_ w4286 ⟨rfl, K4287⟩
    have M4288 := M4274.call0 K4287
    refine ⟨_, rfl, ?_⟩
    refine W_run 3 [(0, .slice p2720 x2718.length c2721), (1, .slice p2725 x2723.length c2726), (2, .int .i64 x2728), (3, .int .i64 x2729), (10, .slice p3486 r3484.1.length c3487), (11, .bool r3484.2), (14, .slice p3929 r3927.1.length c3930), (15, .bool r3927.2), (84, .bool (!r4285))] w4286 (by kernel_rfl) ?_
    rcases gx_bif hm with ⟨hc4289, hm⟩ | ⟨hc4289, hm⟩
    · refine W_known 84 true (by kernel_rfl) hc4289 ?_
      refine W_run 4 [(0, .slice p2720 x2718.length c2721), (1, .slice p2725 x2723.length c2726), (2, .int .i64 x2728), (3, .int .i64 x2729), (10, .slice p3486 r3484.1.length c3487), (11, .bool r3484.2), (14, .slice p3929 r3927.1.length c3930), (88, .bool true)] w4286 (by kernel_rfl) ?_
      refine W_nil ?_
      obtain rfl := Option.some.inj hm
      exact N_meet fun a ha => ⟨M4288.pick [0, 1, 2, 3] (by kernel_rfl), ha.sub (by kernel_rfl)⟩
    refine W_known 84 false (by kernel_rfl) hc4289 ?_
    refine W_run 4 [(0, .slice p2720 x2718.length c2721), (1, .slice p2725 x2723.length c2726), (2, .int .i64 x2728), (3, .int .i64 x2729), (10, .slice p3486 r3484.1.length c3487), (11, .bool r3484.2), (14, .slice p3929 r3927.1.length c3930), (88, .bool (!(r3927.2 == r3484.2)))] w4286 (by kernel_rfl) ?_
    refine W_nil ?_
    obtain rfl := Option.some.inj hm
    exact N_meet fun a ha => ⟨M4288.pick [0, 1, 2, 3] (by kernel_rfl), ha.sub (by kernel_rfl)⟩
  intro a4292 w4290 ⟨M4291, hS4293⟩
  refine N_use hS4293 ?_
  have hm := hm4283
  refine N_then ?_
  rcases gx_bif hm with ⟨hc4294, hm⟩ | ⟨hc4294, hm⟩
  · refine G_cond_t (b := o4281) hc4294 (by kernel_rfl) ?_
    refine G_seq ?_
    refine G_region ?_
    refine W_run 1 [(8, .bool false)] w4290 (by kernel_rfl) ?_
    refine W_nil ?_
    refine N_then ?_
    refine G_ret ?_
    refine N_then_ret ?_
    obtain rfl := Option.some.inj hm
    refine N_ret [.bool false] (RVs_cons (RV_tmp (by kernel_rfl)) RVs_nil) ?_
    exact ⟨rfl, M4291.pick [] (by kernel_rfl)⟩
  refine G_cond_f (b := o4281) hc4294 (by kernel_rfl) ?_
  refine G_skip ?_
  refine N_then ?_
  refine G_seq ?_
  refine G_region ?_
  refine W_run 1 [(0, .slice p2720 x2718.length c2721), (1, .slice p2725 x2723.length c2726), (2, .int .i64 x2728), (3, .int .i64 x2729), (10, .slice p3486 r3484.1.length c3487), (11, .bool r3484.2), (14, .slice p3929 r3927.1.length c3930), (17, .int .i64 1)] w4290 (by kernel_rfl) ?_
  refine W_nil ?_
  refine N_then ?_
  refine G_seq ?_
  refine G_region ?_
  refine W_run 2 [(0, .slice p2720 x2718.length c2721), (1, .slice p2725 x2723.length c2726), (2, .int .i64 x2728), (3, .int .i64 x2729), (10, .slice p3486 r3484.1.length c3487), (11, .bool r3484.2), (14, .slice p3929 r3927.1.length c3930), (17, .int .i64 1), (89, .slice p3929 r3927.1.length c3930), (90, .int .i64 1)] w4290 (by kernel_rfl) ?_
  obtain ⟨r4295, hr4295, hm⟩ := gx_bind hm
  refine W_call 25 #[.slice p3929 r3927.1.length c3930, .int .i64 1] (by kernel_rfl) (by kernel_rfl) ?_
  refine (c_l_markBalloonS w4290 r3927.1 p3929 c3930 sg3931 sg3932 ho3933 1 (M4291.hasPick [2, 3]) (M4291.nodupPick [2, 3] (by kernel_rfl)) hr4295).mono ?_
  rintro e_ w4300 ⟨sg4296, sg4297, rfl, ho4298, hl4299, K4301⟩
  have M4302 := M4291.callF' [2, 3] [0, 1] (by kernel_rfl) K4301
  refine ⟨_, rfl, ?_⟩
  refine W_conv 14 (.slice p3929 r3927.1.length c3930) (.slice p3929 r4295.2.length c3930) (by kernel_rfl) (by first | rw [hl4299] | rw [hl4299]) ?_
  refine W_conv 89 (.slice p3929 r3927.1.length c3930) (.slice p3929 r4295.2.length c3930) (by kernel_rfl) (by first | rw [hl4299] | rw [hl4299]) ?_
  refine W_run 1 [(0, .slice p2720 x2718.length c2721), (1, .slice p2725 x2723.length c2726), (2, .int .i64 x2728), (3, .int .i64 x2729), (10, .slice p3486 r3484.1.length c3487), (11, .bool r3484.2), (14, .slice p3929 r4295.2.length c3930), (17, .int .i64 r4295.1)] w4300 (by kernel_rfl) ?_
  refine W_nil ?_
  refine N_then ?_
  refine G_seq ?_
  refine G_region ?_
  refine W_run 1 [(0, .slice p2720 x2718.length c2721), (1, .slice p2725 x2723.length c2726), (2, .int .i64 x2728), (3, .int .i64 x2729), (10, .slice p3486 r3484.1.length c3487), (11, .bool r3484.2), (14, .slice p3929 r4295.2.length c3930), (17, .int .i64 r4295.1), (18, .int .i64 1)] w4300 (by kernel_rfl) ?_
  refine W_nil ?_
  refine N_then ?_
  refine G_seq ?_
  refine G_region ?_
  refine W_run 2 [(0, .slice p2720 x2718.length c2721), (1, .slice p2725 x2723.length c2726), (2, .int .i64 x2728), (3, .int .i64 x2729), (10, .slice p3486 r3484.1.length c3487), (11, .bool r3484.2), (14, .slice p3929 r4295.2.length c3930), (17, .int .i64 r4295.1), (18, .int .i64 1), (92, .slice p3929 r4295.2.length c3930), (93, .int .i64 1)] w4300 (by kernel_rfl) ?_
  obtain ⟨r4426, hr4426, hm⟩ := gx_bind hm
  refine W_call 26 #[.slice p3929 r4295.2.length c3930, .int .i64 1] (by kernel_rfl) (by kernel_rfl) ?_
  refine (c_l_heldBalloonS w4300 r4295.2 p3929 c3930 (ho4298.rd M4302 2 (by kernel_rfl) 3 (by kernel_rfl)) 1 hr4426).mono ?_
  rintro e_ w4427 ⟨rfl, K4428⟩
  have M4429 := M4302.call0 K4428
  refine ⟨_, rfl, ?_⟩
  refine W_run 1 [(0, .slice p2720 x2718.length c2721), (1, .slice p2725 x2723.length c2726), (2, .int .i64 x2728), (3, .int .i64 x2729), (10, .slice p3486 r3484.1.length c3487), (11, .bool r3484.2), (14, .slice p3929 r4295.2.length c3930), (17, .int .i64 r4295.1), (18, .int .i64 r4426)] w4427 (by kernel_rfl) ?_
  refine W_nil ?_
  refine N_then ?_
  refine G_seq ?_
  refine G_seq ?_
  refine G_region ?_
  refine W_run 2 [(0, .slice p2720 x2718.length c2721), (1, .slice p2725 x2723.length c2726), (2, .int .i64 x2728), (3, .int .i64 x2729), (10, .slice p3486 r3484.1.length c3487), (11, .bool r3484.2), (14, .slice p3929 r4295.2.length c3930), (17, .int .i64 r4295.1), (18, .int .i64 r4426), (96, .bool (decide (r4426 < 0)))] w4427 (by kernel_rfl) ?_
  refine W_nil ?_
  refine N_then ?_
  rcases gx_bif hm with ⟨hc4430, hm⟩ | ⟨hc4430, hm⟩
  · refine G_cond_t (b := (decide (r4426 < 0))) hc4430 (by kernel_rfl) ?_
    refine G_seq ?_
    refine G_region ?_
    refine W_run 1 [(8, .bool false)] w4427 (by kernel_rfl) ?_
    refine W_nil ?_
    refine N_then ?_
    refine G_ret ?_
    refine N_then_ret ?_
    obtain rfl := Option.some.inj hm
    refine N_ret [.bool false] (RVs_cons (RV_tmp (by kernel_rfl)) RVs_nil) ?_
    exact ⟨rfl, M4429.pick [] (by kernel_rfl)⟩
  refine G_cond_f (b := (decide (r4426 < 0))) hc4430 (by kernel_rfl) ?_
  refine G_skip ?_
  refine N_then ?_
  refine G_seq ?_
  refine G_seq ?_
  refine G_region ?_
  refine W_run 3 [(0, .slice p2720 x2718.length c2721), (1, .slice p2725 x2723.length c2726), (2, .int .i64 x2728), (3, .int .i64 x2729), (10, .slice p3486 r3484.1.length c3487), (11, .bool r3484.2), (14, .slice p3929 r4295.2.length c3930), (17, .int .i64 r4295.1), (99, .bool (r4426 != r4295.1))] w4427 (by kernel_rfl) ?_
  refine W_nil ?_
  refine N_then ?_
  rcases gx_bif hm with ⟨hc4431, hm⟩ | ⟨hc4431, hm⟩
  · refine G_cond_t (b := (r4426 != r4295.1)) hc4431 (by kernel_rfl) ?_
    refine G_seq ?_
    refine G_region ?_
    refine W_run 1 [(8, .bool false)] w4427 (by kernel_rfl) ?_
    refine W_nil ?_
    refine N_then ?_
    refine G_ret ?_
    refine N_then_ret ?_
    obtain rfl := Option.some.inj hm
    refine N_ret [.bool false] (RVs_cons (RV_tmp (by kernel_rfl)) RVs_nil) ?_
    exact ⟨rfl, M4429.pick [] (by kernel_rfl)⟩
  refine G_cond_f (b := (r4426 != r4295.1)) hc4431 (by kernel_rfl) ?_
  refine G_skip ?_
  refine N_then ?_
  refine G_seq ?_
  refine G_region ?_
  refine W_run 1 [(1, .slice p2725 x2723.length c2726), (2, .int .i64 x2728), (3, .int .i64 x2729), (10, .slice p3486 r3484.1.length c3487), (11, .bool r3484.2), (14, .slice p3929 r4295.2.length c3930), (17, .int .i64 r4295.1), (101, .slice p2720 x2718.length c2721)] w4427 (by kernel_rfl) ?_
  obtain ⟨r4432, hr4432, hm⟩ := gx_bind hm
  refine W_call 15 #[.slice p2720 x2718.length c2721] (by kernel_rfl) (by kernel_rfl) ?_
  refine (c_l_toIntS w4427 x2718 p2720 c2721 (h2722.mem0 M4429) hr4432).mono ?_
  rintro e_ w4438 ⟨p4434, c4435, sg4436, rfl, ho4437, K4439⟩
  have M4440 := M4429.call K4439
  refine ⟨_, rfl, ?_⟩
  refine W_run 1 [(2, .int .i64 x2728), (3, .int .i64 x2729), (10, .slice p3486 r3484.1.length c3487), (11, .bool r3484.2), (14, .slice p3929 r4295.2.length c3930), (17, .int .i64 r4295.1), (102, .slice p4434 r4432.length c4435), (103, .slice p2725 x2723.length c2726)] w4438 (by kernel_rfl) ?_
  obtain ⟨r4441, hr4441, hm⟩ := gx_bind hm
  refine W_call 16 #[.slice p2725 x2723.length c2726] (by kernel_rfl) (by kernel_rfl) ?_
  refine (c_l_toBalloonS w4438 x2723 p2725 c2726 (h2727.mem0 M4440) hr4441).mono ?_
  rintro e_ w4448 ⟨p4443, c4444, sg4445, sg4446, rfl, ho4447, K4449⟩
  have M4450 := M4440.call K4449
  refine ⟨_, rfl, ?_⟩
  refine W_run 2 [(10, .slice p3486 r3484.1.length c3487), (11, .bool r3484.2), (14, .slice p3929 r4295.2.length c3930), (17, .int .i64 r4295.1), (102, .slice p4434 r4432.length c4435), (104, .slice p4443 r4441.length c4444), (105, .int .i64 x2728), (106, .int .i64 x2729)] w4448 (by kernel_rfl) ?_
  obtain ⟨r4451, hr4451, hm⟩ := gx_bind hm
  refine W_call 23 #[.slice p4434 r4432.length c4435, .slice p4443 r4441.length c4444, .int .i64 x2728, .int .i64 x2729] (by kernel_rfl) (by kernel_rfl) ?_
  refine (c_i_SetGoal w4448 r4432 p4434 c4435 (ho4437.rd M4450 4 (by kernel_rfl)) r4441 p4443 c4444 (ho4447.rd M4450 5 (by kernel_rfl) 6 (by kernel_rfl)) x2728 x2729 hr4451).mono ?_
  rintro e_ w4458 ⟨p4453, c4454, sg4455, sg4456, rfl, ho4457, K4459⟩
  have M4460 := M4450.call K4459
  refine ⟨_, rfl, ?_⟩
  refine W_run 5 [(10, .slice p3486 r3484.1.length c3487), (11, .bool r3484.2), (14, .slice p3929 r4295.2.length c3930), (17, .int .i64 r4295.1), (19, .slice p4453 r4451.1.length c4454), (20, .bool r4451.2)] w4458 (by kernel_rfl) ?_
  refine W_nil ?_
  refine N_then ?_
  refine G_seq ?_
  refine G_seq ?_
  obtain ⟨o4466, ho4467, hm4468⟩ := gx_bind hm
  refine G_meet (fun a w' => Mem [] w w' [sg4296, sg4297] ∧ Sat Try.f5.ntmps [(14, .slice p3929 r4295.2.length c3930), (17, .int .i64 r4295.1), (118, .bool o4466)] a) ?_ ?_
  · have hm := ho4467
    refine G_region ?_
    refine W_run 2 [(11, .bool r3484.2), (14, .slice p3929 r4295.2.length c3930), (17, .int .i64 r4295.1), (20, .bool r4451.2), (110, .slice p4453 r4451.1.length c4454), (111, .slice p3486 r3484.1.length c3487)] w4458 (by kernel_rfl) ?_
    obtain ⟨r4469, hr4469, hm⟩ := gx_bind hm
    refine W_call 19 #[.slice p4453 r4451.1.length c4454, .slice p3486 r3484.1.length c3487] (by kernel_rfl) (by kernel_rfl) ?_
    refine (c_l_eqBalloonS w4458 r4451.1 p4453 c4454 (ho4457.rd M4460 7 (by kernel_rfl) 8 (by kernel_rfl)) r3484.1 p3486 c3487 (ho3490.rd M4460 0 (by kernel_rfl) 1 (by kernel_rfl)) hr4469).mono ?_
    rintro e_ w4470 ⟨rfl, K4471⟩
    have M4472 := M4460.call0 K4471
    refine ⟨_, rfl, ?_⟩
    refine W_run 2 [(11, .bool r3484.2), (14, .slice p3929 r4295.2.length c3930), (17, .int .i64 r4295.1), (20, .bool r4451.2), (114, .bool (!r4469))] w4470 (by kernel_rfl) ?_
    rcases gx_bif hm with ⟨hc4473, hm⟩ | ⟨hc4473, hm⟩
    · refine W_known 114 true (by kernel_rfl) hc4473 ?_
      refine W_run 4 [(14, .slice p3929 r4295.2.length c3930), (17, .int .i64 r4295.1), (118, .bool true)] w4470 (by kernel_rfl) ?_
      refine W_nil ?_
      obtain rfl := Option.some.inj hm
      exact N_meet fun a ha => ⟨M4472.pick [2, 3] (by kernel_rfl), ha.sub (by kernel_rfl)⟩
    refine W_known 114 false (by kernel_rfl) hc4473 ?_
    refine W_run 4 [(14, .slice p3929 r4295.2.length c3930), (17, .int .i64 r4295.1), (118, .bool (!(r4451.2 == r3484.2)))] w4470 (by kernel_rfl) ?_
    refine W_nil ?_
    obtain rfl := Option.some.inj hm
    exact N_meet fun a ha => ⟨M4472.pick [2, 3] (by kernel_rfl), ha.sub (by kernel_rfl)⟩
  intro a4476 w4474 ⟨M4475, hS4477⟩
  refine N_use hS4477 ?_
  have hm := hm4468
  refine N_then ?_
  rcases gx_bif hm with ⟨hc4478, hm⟩ | ⟨hc4478, hm⟩
  · refine G_cond_t (b := o4466) hc4478 (by kernel_rfl) ?_
    refine G_seq ?_
    refine G_region ?_
    refine W_run 1 [(8, .bool false)] w4474 (by kernel_rfl) ?_
    refine W_nil ?_
    refine N_then ?_
    refine G_ret ?_
    refine N_then_ret ?_
    obtain rfl := Option.some.inj hm
    refine N_ret [.bool false] (RVs_cons (RV_tmp (by kernel_rfl)) RVs_nil) ?_
    exact ⟨rfl, M4475.pick [] (by kernel_rfl)⟩
  refine G_cond_f (b := o4466) hc4478 (by kernel_rfl) ?_
  refine G_skip ?_
  refine N_then ?_
  refine G_seq ?_
  refine G_region ?_
  refine W_run 1 [(14, .slice p3929 r4295.2.length c3930), (17, .int .i64 r4295.1), (18, .int .i64 1)] w4474 (by kernel_rfl) ?_
  refine W_nil ?_
  refine N_then ?_
  refine G_seq ?_
  refine G_region ?_
  refine W_run 2 [(17, .int .i64 r4295.1), (18, .int .i64 1), (119, .slice p3929 r4295.2.length c3930), (120, .int .i64 1)] w4474 (by kernel_rfl) ?_
  obtain ⟨r4479, hr4479, hm⟩ := gx_bind hm
  refine W_call 26 #[.slice p3929 r4295.2.length c3930, .int .i64 1] (by kernel_rfl) (by kernel_rfl) ?_
  refine (c_l_heldBalloonS w4474 r4295.2 p3929 c3930 (ho4298.rd M4475 0 (by kernel_rfl) 1 (by kernel_rfl)) 1 hr4479).mono ?_
  rintro e_ w4480 ⟨rfl, K4481⟩
  have M4482 := M4475.call0 K4481
  refine ⟨_, rfl, ?_⟩
  refine W_run 1 [(17, .int .i64 r4295.1), (18, .int .i64 r4479)] w4480 (by kernel_rfl) ?_
  refine W_nil ?_
  refine N_then ?_
  refine G_seq ?_
  refine G_seq ?_
  refine G_region ?_
  refine W_run 2 [(17, .int .i64 r4295.1), (18, .int .i64 r4479), (123, .bool (decide (r4479 < 0)))] w4480 (by kernel_rfl) ?_
  refine W_nil ?_
  refine N_then ?_
  rcases gx_bif hm with ⟨hc4483, hm⟩ | ⟨hc4483, hm⟩
  · refine G_cond_t (b := (decide (r4479 < 0))) hc4483 (by kernel_rfl) ?_
    refine G_seq ?_
    refine G_region ?_
    refine W_run 1 [(8, .bool false)] w4480 (by kernel_rfl) ?_
    refine W_nil ?_
    refine N_then ?_
    refine G_ret ?_
    refine N_then_ret ?_
    obtain rfl := Option.some.inj hm
    refine N_ret [.bool false] (RVs_cons (RV_tmp (by kernel_rfl)) RVs_nil) ?_
    exact ⟨rfl, M4482.pick [] (by kernel_rfl)⟩
  refine G_cond_f (b := (decide (r4479 < 0))) hc4483 (by kernel_rfl) ?_
  refine G_skip ?_
  refine N_then ?_
  refine G_seq ?_
  refine G_seq ?_
  refine G_region ?_
  refine W_run 3 [(126, .bool (r4479 != r4295.1))] w4480 (by kernel_rfl) ?_
  refine W_nil ?_
  refine N_then ?_
  rcases gx_bif hm with ⟨hc4484, hm⟩ | ⟨hc4484, hm⟩
  · refine G_cond_t (b := (r4479 != r4295.1)) hc4484 (by kernel_rfl) ?_
    refine G_seq ?_
    refine G_region ?_
    refine W_run 1 [(8, .bool false)] w4480 (by kernel_rfl) ?_
    refine W_nil ?_
    refine N_then ?_
    refine G_ret ?_
    refine N_then_ret ?_
    obtain rfl := Option.some.inj hm
    refine N_ret [.bool false] (RVs_cons (RV_tmp (by kernel_rfl)) RVs_nil) ?_
    exact ⟨rfl, M4482.pick [] (by kernel_rfl)⟩
  refine G_cond_f (b := (r4479 != r4295.1)) hc4484 (by kernel_rfl) ?_
  refine G_skip ?_
  refine N_then ?_
  refine G_seq ?_
  refine G_region ?_
  refine W_run 1 [(8, .bool true)] w4480 (by kernel_rfl) ?_
  refine W_nil ?_
  refine N_then ?_
  refine G_ret ?_
  obtain rfl := Option.some.inj hm
  refine N_ret [.bool true] (RVs_cons (RV_tmp (by kernel_rfl)) RVs_nil) ?_
  exact ⟨rfl, M4482.pick [] (by kernel_rfl)⟩
theorem c_s_l18Owner (w : World) (x5056 : List Int) (p5058 : Option Addr) (c5059 : Nat) (h5060 : rdS Gx.encI w x5056 p5058 c5059) (x5061 : Int) (x5062 : Int) {r : (List Int)} (hm : M.s_l18Owner x5056 x5061 x5062 = some r) :
    Calls Try.prog 61 #[.slice p5058 x5056.length c5059, .int .i64 x5061, .int .i64 x5062] w fun e w' => ∃ (p5064 : Option Addr) (c5065 : Nat) (sg5066 : Seg), e = .returned (.slice p5064 r.length c5065) ∧ ownS Gx.encI r p5064 c5065 sg5066 ∧ Mem [] w w' [sg5066] := by
  unfold M.s_l18Owner at hm
  refine C_enter Try.func61 rfl (by kernel_rfl) ?_
  have M0 := Mem.refl [] w
  refine G_seq ?_
  refine G_region ?_
  refine W_run 1 [(0, .slice p5058 x5056.length c5059), (1, .int .i64 x5061), (2, .int .i64 x5062)] w (by kernel_rfl) ?_
  refine W_nil ?_
  refine N_then ?_
  refine G_seq ?_
  refine G_region ?_
  refine W_run 1 [(1, .int .i64 x5061), (2, .int .i64 x5062), (8, .slice p5058 x5056.length c5059)] w (by kernel_rfl) ?_
  obtain ⟨r5068, hr5068, hm⟩ := gx_bind hm
  refine W_call 71 #[.slice p5058 x5056.length c5059] (by kernel_rfl) (by kernel_rfl) ?_
  refine (c_s_l1Own w x5056 p5058 c5059 (h5060.mem0 M0) hr5068).mono ?_
  rintro e_ w5074 ⟨p5070, c5071, sg5072, rfl, ho5073, K5075⟩
  have M5076 := M0.call K5075
  refine ⟨_, rfl, ?_⟩
  refine W_run 1 [(1, .int .i64 x5061), (2, .int .i64 x5062), (7, .slice p5070 r5068.length c5071)] w5074 (by kernel_rfl) ?_
  refine W_nil ?_
  refine N_then ?_
  refine G_seq ?_
  refine G_region ?_
  refine W_run 3 [(7, .slice p5070 r5068.length c5071), (10, .slice p5070 r5068.length c5071), (11, .int .i64 x5061), (12, .int .i64 x5062)] w5074 (by kernel_rfl) ?_
  obtain ⟨y5077, hy5077, hm⟩ := gx_bind hm
  refine W_val (elemP p5070 (x5061.toNat * 1)) w5074 (by kernel_rfl) (E_index (E := Gx.encI) _ _ _ r5068.length c5071 .i64 x5061 1 (y := y5077) rfl (by kernel_rfl) (by kernel_rfl) (by kernel_rfl) (ho5073.rd M5076 0 (by kernel_rfl)) rfl hy5077) ?_
  refine W_storeE (E := Gx.encI) _ _ _ false 1 x5061.toNat 0 (x5061.toNat * 1) y5077 x5062 (.int .i64 x5062) 0 M5076 ho5073 (by kernel_rfl) (by kernel_rfl) rfl (by kernel_rfl) (by kernel_rfl) (by kernel_rfl) (by kernel_rfl) (by kernel_rfl) (by kernel_rfl) (by kernel_rfl) (gxIdx_spec hy5077).2 rfl ?_
  intro w5078 sg5080 ho5081 M5079
  refine W_conv 7 (.slice p5070 r5068.length c5071) (.slice p5070 (r5068.set x5061.toNat x5062).length c5071) (by kernel_rfl) (by rw [@List.length_set _ r5068 x5061.toNat x5062]) ?_
  refine W_conv 10 (.slice p5070 r5068.length c5071) (.slice p5070 (r5068.set x5061.toNat x5062).length c5071) (by kernel_rfl) (by rw [@List.length_set _ r5068 x5061.toNat x5062]) ?_
  refine W_nil ?_
  refine N_then ?_
  refine G_seq ?_
  refine G_region ?_
  refine W_run 2 [(6, .slice p5070 (r5068.set x5061.toNat x5062).length c5071)] w5078 (by kernel_rfl) ?_
  refine W_nil ?_
  refine N_then ?_
  refine G_ret ?_
  obtain rfl := Option.some.inj hm
  refine N_ret [.slice p5070 (r5068.set x5061.toNat x5062).length c5071] (RVs_cons (RV_tmp (by kernel_rfl)) RVs_nil) ?_
  exact ⟨p5070, c5071, sg5080, rfl, ho5081, M5079.pick [0] (by kernel_rfl)⟩
theorem c_s_TakeGiven (w : World) (x4521 : List Int) (p4523 : Option Addr) (c4524 : Nat) (h4525 : rdS Gx.encI w x4521 p4523 c4524) (x4526 : List Balloon) (p4528 : Option Addr) (c4529 : Nat) (h4530 : rdD deepBalloon w x4526 p4528 c4529) (x4531 : Int) {r : (List Int) × (List Balloon) × Int × Bool} (hm : M.s_TakeGiven x4521 x4526 x4531 = some r) :
    Calls Try.prog 27 #[.slice p4523 x4521.length c4524, .slice p4528 x4526.length c4529, .int .i64 x4531] w fun e w' => ∃ (p4533 : Option Addr) (c4534 : Nat) (sg4535 : Seg), ∃ (p4537 : Option Addr) (c4538 : Nat) (sg4539 : Seg) (sg4540 : Seg), e = .returned (.tuple #[.slice p4533 r.1.length c4534, .slice p4537 r.2.1.length c4538, .int .i64 r.2.2.1, .bool r.2.2.2]) ∧ ownS Gx.encI r.1 p4533 c4534 sg4535 ∧ ownD deepBalloon r.2.1 p4537 c4538 sg4539 sg4540 ∧ Mem [] w w' [sg4535, sg4539, sg4540] := by
  unfold M.s_TakeGiven at hm
  refine C_enter Try.func27 rfl (by kernel_rfl) ?_
  have M0 := Mem.refl [] w
  refine G_seq ?_
  refine G_region ?_
  refine W_run 4 [(0, .slice p4523 x4521.length c4524), (1, .slice p4528 x4526.length c4529), (2, .int .i64 x4531)] w (by kernel_rfl) ?_
  refine W_nil ?_
  refine N_then ?_
  refine G_seq ?_
  refine G_region ?_
  refine W_run 1 [(0, .slice p4523 x4521.length c4524), (1, .slice p4528 x4526.length c4529), (2, .int .i64 x4531), (10, .int .i64 (-1))] w (by kernel_rfl) ?_
  refine W_nil ?_
  refine N_then ?_
  refine G_seq ?_
  refine G_seq ?_
  obtain ⟨o4552, ho4553, hm4554⟩ := gx_bind hm
  refine G_meet (fun a w' => Mem [] w w' [] ∧ Sat Try.f27.ntmps [(0, .slice p4523 x4521.length c4524), (1, .slice p4528 x4526.length c4529), (2, .int .i64 x4531), (10, .int .i64 (-1)), (19, .bool o4552)] a) ?_ ?_
  · have hm := ho4553
    refine G_region ?_
    refine W_run 2 [(0, .slice p4523 x4521.length c4524), (1, .slice p4528 x4526.length c4529), (2, .int .i64 x4531), (10, .int .i64 (-1)), (13, .slice p4523 x4521.length c4524), (14, .slice p4528 x4526.length c4529)] w (by kernel_rfl) ?_
    obtain ⟨r4555, hr4555, hm⟩ := gx_bind hm
    refine W_call 47 #[.slice p4523 x4521.length c4524, .slice p4528 x4526.length c4529] (by kernel_rfl) (by kernel_rfl) ?_
    refine (c_s_l18Good w x4521 p4523 c4524 (h4525.mem0 M0) x4526 p4528 c4529 (h4530.mem0 M0) hr4555).mono ?_
    rintro e_ w4556 ⟨rfl, K4557⟩
    have M4558 := M0.call0 K4557
    refine ⟨_, rfl, ?_⟩
    refine W_run 1 [(0, .slice p4523 x4521.length c4524), (1, .slice p4528 x4526.length c4529), (2, .int .i64 x4531), (10, .int .i64 (-1)), (16, .bool r4555)] w4556 (by kernel_rfl) ?_
    rcases gx_bif hm with ⟨hc4559, hm⟩ | ⟨hc4559, hm⟩
    · refine W_known 16 true (by kernel_rfl) hc4559 ?_
      refine W_run 1 [(0, .slice p4523 x4521.length c4524), (1, .slice p4528 x4526.length c4529), (2, .int .i64 x4531), (10, .int .i64 (-1)), (16, .bool true), (17, .int .i64 x4531)] w4556 (by kernel_rfl) ?_
      obtain ⟨r4560, hr4560, hm⟩ := gx_bind hm
      refine W_call 57 #[.int .i64 x4531, .int .i64 1, .int .i64 4] (by kernel_rfl) (by kernel_rfl) ?_
      refine (c_s_l1In w4556 x4531 1 4 hr4560).mono ?_
      rintro e_ w4561 ⟨rfl, K4562⟩
      have M4563 := M4558.call0 K4562
      refine ⟨_, rfl, ?_⟩
      refine W_run 1 [(0, .slice p4523 x4521.length c4524), (1, .slice p4528 x4526.length c4529), (2, .int .i64 x4531), (10, .int .i64 (-1)), (19, .bool r4560)] w4561 (by kernel_rfl) ?_
      refine W_nil ?_
      obtain rfl := Option.some.inj hm
      exact N_meet fun a ha => ⟨M4563.pick [] (by kernel_rfl), ha.sub (by kernel_rfl)⟩
    refine W_known 16 false (by kernel_rfl) hc4559 ?_
    refine W_run 3 [(0, .slice p4523 x4521.length c4524), (1, .slice p4528 x4526.length c4529), (2, .int .i64 x4531), (10, .int .i64 (-1)), (19, .bool false)] w4556 (by kernel_rfl) ?_
    refine W_nil ?_
    obtain rfl := Option.some.inj hm
    exact N_meet fun a ha => ⟨M4558.pick [] (by kernel_rfl), ha.sub (by kernel_rfl)⟩
  intro a4566 w4564 ⟨M4565, hS4567⟩
  refine N_use hS4567 ?_
  have hm := hm4554
  refine N_then ?_
  obtain ⟨o4791, ho4792, hm4793⟩ := gx_bind hm
  refine G_meet (fun a w' => Mem [] w w' [] ∧ Sat Try.f27.ntmps [(0, .slice p4523 x4521.length c4524), (1, .slice p4528 x4526.length c4529), (2, .int .i64 x4531), (10, .int .i64 o4791)] a) ?_ ?_
  · have hm := ho4792
    rcases gx_bif hm with ⟨hc4794, hm⟩ | ⟨hc4794, hm⟩
    · refine G_cond_t (b := o4552) hc4794 (by kernel_rfl) ?_
      refine G_seq ?_
      refine G_region ?_
      refine W_run 1 [(0, .slice p4523 x4521.length c4524), (1, .slice p4528 x4526.length c4529), (2, .int .i64 x4531), (10, .int .i64 (-1)), (11, .int .i64 0)] w4564 (by kernel_rfl) ?_
      refine W_nil ?_
      refine N_then ?_
      obtain ⟨out4940, hw4941, hmo4942⟩ := gx_bind hm
      refine G_meet (fun a w' => Mem [] w w' [] ∧ Sat Try.f27.ntmps [(0, .slice p4523 x4521.length c4524), (1, .slice p4528 x4526.length c4529), (2, .int .i64 x4531), (10, .int .i64 out4940)] a) ?_ ?_
      · refine G_block ?_
        refine G_while (σ := Int × Int) (ρ := Int) (fun s4933 a w' => Mem [] w w' [] ∧ Sat Try.f27.ntmps [(0, .slice p4523 x4521.length c4524), (1, .slice p4528 x4526.length c4529), (2, .int .i64 x4531), (10, .int .i64 s4933.1), (11, .int .i64 s4933.2)] a) hw4941 (fun a ha => ⟨M4565.pick [] (by kernel_rfl), ha.sub (by kernel_rfl)⟩) ?_
        clear hm
        intro s4933 x4934 hm hout4935 a4936 w4937 ⟨M4938, hS4939⟩
        refine G_use hS4939 ?_
        refine G_seq ?_
        refine G_seq ?_
        refine G_region ?_
        refine W_run 4 [(0, .slice p4523 x4521.length c4524), (1, .slice p4528 x4526.length c4529), (2, .int .i64 x4531), (10, .int .i64 s4933.1), (11, .int .i64 s4933.2), (23, .bool (decide (s4933.2 < (x4526.length : Int))))] w4937 (by kernel_rfl) ?_
        refine W_nil ?_
        refine N_then ?_
        rcases gx_bif hm with ⟨hc4944, hm⟩ | ⟨hc4944, hm⟩
        · refine G_cond_t (b := (decide (s4933.2 < (x4526.length : Int)))) hc4944 (by kernel_rfl) ?_
          refine G_skip ?_
          refine N_then ?_
          refine G_seq ?_
          refine G_block ?_
          refine G_seq ?_
          obtain ⟨o4971, ho4972, hm4973⟩ := gx_bind hm
          refine G_meet (fun a w' => Mem [] w w' [] ∧ Sat Try.f27.ntmps [(0, .slice p4523 x4521.length c4524), (1, .slice p4528 x4526.length c4529), (2, .int .i64 x4531), (10, .int .i64 s4933.1), (11, .int .i64 s4933.2), (53, .bool o4971)] a) ?_ ?_
          · have hm := ho4972
            refine G_quiet (by kernel_rfl) (by kernel_rfl) M4938 ?_
            refine Z_runs [.slice p4528 x4526.length c4529, .int .i64 s4933.2] [(0, .slice p4523 x4521.length c4524), (1, .slice p4528 x4526.length c4529), (2, .int .i64 x4531), (10, .int .i64 s4933.1), (11, .int .i64 s4933.2), (26, .slice p4528 x4526.length c4529), (27, .int .i64 s4933.2)] (fun w_ => by kernel_rfl) (by kernel_rfl) ?_
            obtain ⟨y4974, hy4974, hm⟩ := gx_bind hm
            obtain ⟨zs4975, hz4976, hr4977, hi4978⟩ := id h4530
            obtain ⟨g4979, hg4980⟩ := gxIdx_fst hz4976 hy4974
            refine Z_val (elemP p4528 (s4933.2.toNat * 3)) (by kernel_rfl) (fun w_ M_ => (E_index (E := deepBalloon.E) _ _ _ x4526.length c4529 .i64 s4933.2 3 (y := (y4974, g4979)) rfl (by kernel_rfl) (by kernel_rfl) (by kernel_rfl) (hr4977.mem0 M_) (len_fst hz4976) hg4980)) ?_
            refine Z_val (elemP p4528 (s4933.2.toNat * 3 + 2)) (by kernel_rfl) (fun w_ M_ => (E_fieldE (E := deepBalloon.E) _ _ 2 (s4933.2.toNat * 3) 2 rfl (by kernel_rfl) (by kernel_rfl) (hr4977.mem0 M_) hg4980)) ?_
            refine Z_val (.slice ((g4979 0).1) y4974.Gave.length ((g4979 0).2)) (by kernel_rfl) (fun w_ M_ => (E_loadE (E := deepBalloon.E) _ _ false 1 s4933.2 2 (s4933.2.toNat * 3 + 2) (y4974, g4979) (.slice ((g4979 0).1) y4974.Gave.length ((g4979 0).2)) rfl (by kernel_rfl) (by kernel_rfl) (by kernel_rfl) (hr4977.mem0 M_) hg4980 rfl)) ?_
            refine Z_runs [.int .i64 (y4974.Gave.length : Int), .bool (decide ((y4974.Gave.length : Int) > 0)), .bool (decide ((y4974.Gave.length : Int) > 0))] [(0, .slice p4523 x4521.length c4524), (1, .slice p4528 x4526.length c4529), (2, .int .i64 x4531), (10, .int .i64 s4933.1), (11, .int .i64 s4933.2), (33, .bool (decide ((y4974.Gave.length : Int) > 0)))] (fun w_ => by kernel_rfl) (by kernel_rfl) ?_
            rcases gx_bif hm with ⟨hc4982, hm⟩ | ⟨hc4982, hm⟩
            · refine Z_known 33 true (by kernel_rfl) hc4982 ?_
              refine Z_runs [.int .i64 s4933.1, .bool (decide (s4933.1 < 0)), .bool (decide (s4933.1 < 0))] [(0, .slice p4523 x4521.length c4524), (1, .slice p4528 x4526.length c4529), (2, .int .i64 x4531), (10, .int .i64 s4933.1), (11, .int .i64 s4933.2), (33, .bool true), (36, .bool (decide (s4933.1 < 0)))] (fun w_ => by kernel_rfl) (by kernel_rfl) ?_
              rcases gx_bif hm with ⟨hc4983, hm⟩ | ⟨hc4983, hm⟩
              · refine Z_known 36 true (by kernel_rfl) hc4983 ?_
                refine Z_runs [undef, undef, undef, undef, undef, undef, undef, undef, undef, undef, undef, undef, undef, undef, undef, .bool true, .bool true] [(0, .slice p4523 x4521.length c4524), (1, .slice p4528 x4526.length c4529), (2, .int .i64 x4531), (10, .int .i64 s4933.1), (11, .int .i64 s4933.2), (53, .bool true)] (fun w_ => by kernel_rfl) (by kernel_rfl) ?_
                refine Z_end fun w4984 M4985 => ?_
                obtain rfl := Option.some.inj hm
                exact N_meet fun a ha => ⟨M4985.pick [] (by kernel_rfl), ha.sub (by kernel_rfl)⟩
              refine Z_known 36 false (by kernel_rfl) hc4983 ?_
              refine Z_runs [.slice p4528 x4526.length c4529, .int .i64 s4933.2] [(0, .slice p4523 x4521.length c4524), (1, .slice p4528 x4526.length c4529), (2, .int .i64 x4531), (10, .int .i64 s4933.1), (11, .int .i64 s4933.2), (33, .bool true), (36, .bool false), (37, .slice p4528 x4526.length c4529), (38, .int .i64 s4933.2)] (fun w_ => by kernel_rfl) (by kernel_rfl) ?_
              obtain ⟨y4986, hy4986, hm⟩ := gx_bind hm
              obtain ⟨g4987, hg4988⟩ := gxIdx_fst hz4976 hy4986
              refine Z_val (elemP p4528 (s4933.2.toNat * 3)) (by kernel_rfl) (fun w_ M_ => (E_index (E := deepBalloon.E) _ _ _ x4526.length c4529 .i64 s4933.2 3 (y := (y4986, g4987)) rfl (by kernel_rfl) (by kernel_rfl) (by kernel_rfl) (hr4977.mem0 M_) (len_fst hz4976) hg4988)) ?_
              refine Z_val (elemP p4528 (s4933.2.toNat * 3 + 2)) (by kernel_rfl) (fun w_ M_ => (E_fieldE (E := deepBalloon.E) _ _ 2 (s4933.2.toNat * 3) 2 rfl (by kernel_rfl) (by kernel_rfl) (hr4977.mem0 M_) hg4988)) ?_
              refine Z_val (.slice ((g4987 0).1) y4986.Gave.length ((g4987 0).2)) (by kernel_rfl) (fun w_ M_ => (E_loadE (E := deepBalloon.E) _ _ false 1 s4933.2 2 (s4933.2.toNat * 3 + 2) (y4986, g4987) (.slice ((g4987 0).1) y4986.Gave.length ((g4987 0).2)) rfl (by kernel_rfl) (by kernel_rfl) (by kernel_rfl) (hr4977.mem0 M_) hg4988 rfl)) ?_
              obtain ⟨y4990, hy4990, hm⟩ := gx_bind hm
              refine Z_val (elemP ((g4987 0).1) ((0 : Int).toNat * 1)) (by kernel_rfl) (fun w_ M_ => (E_index (E := Gx.encI) _ _ _ y4986.Gave.length ((g4987 0).2) .i64 0 1 (y := y4990) rfl (by kernel_rfl) (by kernel_rfl) (by kernel_rfl) ((hi4978.mem0 M_).at_ hg4988 0 ⟨Int, Gx.encI, y4986.Gave, (g4987 0).1, (g4987 0).2⟩ (by kernel_rfl)) rfl hy4990)) ?_
              refine Z_val (.int .i64 y4990) (by kernel_rfl) (fun w_ M_ => (E_loadE (E := Gx.encI) _ _ false 1 0 0 ((0 : Int).toNat * 1) y4990 (.int .i64 y4990) rfl (by kernel_rfl) (by kernel_rfl) (by kernel_rfl) ((hi4978.mem0 M_).at_ hg4988 0 ⟨Int, Gx.encI, y4986.Gave, (g4987 0).1, (g4987 0).2⟩ (by kernel_rfl)) hy4990 rfl)) ?_
              refine Z_runs [.slice p4528 x4526.length c4529, .int .i64 s4933.1] [(0, .slice p4523 x4521.length c4524), (1, .slice p4528 x4526.length c4529), (2, .int .i64 x4531), (10, .int .i64 s4933.1), (11, .int .i64 s4933.2), (33, .bool true), (36, .bool false), (43, .int .i64 y4990), (44, .slice p4528 x4526.length c4529), (45, .int .i64 s4933.1)] (fun w_ => by kernel_rfl) (by kernel_rfl) ?_
              obtain ⟨y4991, hy4991, hm⟩ := gx_bind hm
              obtain ⟨g4992, hg4993⟩ := gxIdx_fst hz4976 hy4991
              refine Z_val (elemP p4528 (s4933.1.toNat * 3)) (by kernel_rfl) (fun w_ M_ => (E_index (E := deepBalloon.E) _ _ _ x4526.length c4529 .i64 s4933.1 3 (y := (y4991, g4992)) rfl (by kernel_rfl) (by kernel_rfl) (by kernel_rfl) (hr4977.mem0 M_) (len_fst hz4976) hg4993)) ?_
              refine Z_val (elemP p4528 (s4933.1.toNat * 3 + 2)) (by kernel_rfl) (fun w_ M_ => (E_fieldE (E := deepBalloon.E) _ _ 2 (s4933.1.toNat * 3) 2 rfl (by kernel_rfl) (by kernel_rfl) (hr4977.mem0 M_) hg4993)) ?_
              refine Z_val (.slice ((g4992 0).1) y4991.Gave.length ((g4992 0).2)) (by kernel_rfl) (fun w_ M_ => (E_loadE (E := deepBalloon.E) _ _ false 1 s4933.1 2 (s4933.1.toNat * 3 + 2) (y4991, g4992) (.slice ((g4992 0).1) y4991.Gave.length ((g4992 0).2)) rfl (by kernel_rfl) (by kernel_rfl) (by kernel_rfl) (hr4977.mem0 M_) hg4993 rfl)) ?_
              obtain ⟨y4995, hy4995, hm⟩ := gx_bind hm
              refine Z_val (elemP ((g4992 0).1) ((0 : Int).toNat * 1)) (by kernel_rfl) (fun w_ M_ => (E_index (E := Gx.encI) _ _ _ y4991.Gave.length ((g4992 0).2) .i64 0 1 (y := y4995) rfl (by kernel_rfl) (by kernel_rfl) (by kernel_rfl) ((hi4978.mem0 M_).at_ hg4993 0 ⟨Int, Gx.encI, y4991.Gave, (g4992 0).1, (g4992 0).2⟩ (by kernel_rfl)) rfl hy4995)) ?_
              refine Z_val (.int .i64 y4995) (by kernel_rfl) (fun w_ M_ => (E_loadE (E := Gx.encI) _ _ false 1 0 0 ((0 : Int).toNat * 1) y4995 (.int .i64 y4995) rfl (by kernel_rfl) (by kernel_rfl) (by kernel_rfl) ((hi4978.mem0 M_).at_ hg4993 0 ⟨Int, Gx.encI, y4991.Gave, (g4992 0).1, (g4992 0).2⟩ (by kernel_rfl)) hy4995 rfl)) ?_
              refine Z_runs [.bool (decide (y4990 < y4995)), .bool (decide (y4990 < y4995)), .bool (decide (y4990 < y4995))] [(0, .slice p4523 x4521.length c4524), (1, .slice p4528 x4526.length c4529), (2, .int .i64 x4531), (10, .int .i64 s4933.1), (11, .int .i64 s4933.2), (53, .bool (decide (y4990 < y4995)))] (fun w_ => by kernel_rfl) (by kernel_rfl) ?_
              refine Z_end fun w4996 M4997 => ?_
              obtain rfl := Option.some.inj hm
              exact N_meet fun a ha => ⟨M4997.pick [] (by kernel_rfl), ha.sub (by kernel_rfl)⟩
            refine Z_known 33 false (by kernel_rfl) hc4982 ?_
            refine Z_runs [undef, undef, undef, undef, undef, undef, undef, undef, undef, undef, undef, undef, undef, undef, undef, undef, undef, undef, undef, .bool false] [(0, .slice p4523 x4521.length c4524), (1, .slice p4528 x4526.length c4529), (2, .int .i64 x4531), (10, .int .i64 s4933.1), (11, .int .i64 s4933.2), (53, .bool false)] (fun w_ => by kernel_rfl) (by kernel_rfl) ?_
            refine Z_end fun w4998 M4999 => ?_
            obtain rfl := Option.some.inj hm
            exact N_meet fun a ha => ⟨M4999.pick [] (by kernel_rfl), ha.sub (by kernel_rfl)⟩
          intro a5002 w5000 ⟨M5001, hS5003⟩
          refine N_use hS5003 ?_
          have hm := hm4973
          refine N_then ?_
          obtain ⟨o5005, ho5006, hm5007⟩ := gx_bind hm
          refine G_meet (fun a w' => Mem [] w w' [] ∧ Sat Try.f27.ntmps [(0, .slice p4523 x4521.length c4524), (1, .slice p4528 x4526.length c4529), (2, .int .i64 x4531), (10, .int .i64 o5005), (11, .int .i64 s4933.2)] a) ?_ ?_
          · have hm := ho5006
            rcases gx_bif hm with ⟨hc5008, hm⟩ | ⟨hc5008, hm⟩
            · refine G_cond_t (b := o4971) hc5008 (by kernel_rfl) ?_
              refine G_region ?_
              refine W_run 2 [(0, .slice p4523 x4521.length c4524), (1, .slice p4528 x4526.length c4529), (2, .int .i64 x4531), (10, .int .i64 s4933.2), (11, .int .i64 s4933.2)] w5000 (by kernel_rfl) ?_
              refine W_nil ?_
              obtain rfl := Option.some.inj hm
              exact N_meet fun a ha => ⟨M5001.pick [] (by kernel_rfl), ha.sub (by kernel_rfl)⟩
            refine G_cond_f (b := o4971) hc5008 (by kernel_rfl) ?_
            refine G_skip ?_
            obtain rfl := Option.some.inj hm
            exact N_meet fun a ha => ⟨M5001.pick [] (by kernel_rfl), ha.sub (by kernel_rfl)⟩
          intro a5011 w5009 ⟨M5010, hS5012⟩
          refine N_use hS5012 ?_
          have hm := hm5007
          refine N_block ?_
          refine N_then ?_
          refine G_region ?_
          refine W_run 3 [(0, .slice p4523 x4521.length c4524), (1, .slice p4528 x4526.length c4529), (2, .int .i64 x4531), (10, .int .i64 o5005), (11, .int .i64 (w64 (s4933.2 + 1)))] w5009 (by kernel_rfl) ?_
          refine W_nil ?_
          obtain rfl := Option.some.inj hm
          exact N_loop fun a ha => ⟨_, rfl, M5010.pick [] (by kernel_rfl), ha.sub (by kernel_rfl)⟩
        refine G_cond_f (b := (decide (s4933.2 < (x4526.length : Int)))) hc4944 (by kernel_rfl) ?_
        refine G_exit ?_
        refine N_then_exit ?_
        refine N_then_exit ?_
        refine N_block_eq ?_
        obtain rfl := Option.some.inj hm
        obtain rfl := hout4935 _ rfl
        exact N_meet fun a ha => ⟨M4938.pick [] (by kernel_rfl), ha.sub (by kernel_rfl)⟩
      intro a5013 w5014 ⟨M5015, hS5016⟩
      refine N_use hS5016 ?_
      have hm := hmo4942
      obtain rfl := Option.some.inj hm
      exact N_meet fun a ha => ⟨M5015.pick [] (by kernel_rfl), ha.sub (by kernel_rfl)⟩
    refine G_cond_f (b := o4552) hc4794 (by kernel_rfl) ?_
    refine G_skip ?_
    obtain rfl := Option.some.inj hm
    exact N_meet fun a ha => ⟨M4565.pick [] (by kernel_rfl), ha.sub (by kernel_rfl)⟩
  intro a5019 w5017 ⟨M5018, hS5020⟩
  refine N_use hS5020 ?_
  have hm := hm4793
  refine N_then ?_
  refine G_seq ?_
  refine G_seq ?_
  refine G_region ?_
  refine W_run 2 [(0, .slice p4523 x4521.length c4524), (1, .slice p4528 x4526.length c4529), (2, .int .i64 x4531), (10, .int .i64 o4791), (56, .bool (decide (o4791 < 0)))] w5017 (by kernel_rfl) ?_
  refine W_nil ?_
  refine N_then ?_
  rcases gx_bif hm with ⟨hc5021, hm⟩ | ⟨hc5021, hm⟩
  · refine G_cond_t (b := (decide (o4791 < 0))) hc5021 (by kernel_rfl) ?_
    refine G_seq ?_
    refine G_region ?_
    refine W_lit (E := Gx.encI) ([] : List Int) 0 [] 3 M5018 (by kernel_rfl) (by kernel_rfl) (by kernel_rfl) (by kernel_rfl) (by kernel_rfl) ?_
    intro p5022 c5023 sg5024 w5025 ho5026 M5027
    have M5029 : Mem [] w w5025 [sg5024] := M5027.pick [0] (by kernel_rfl)
    have M5030 : Mem [] w w5025 [sg5024, []] := M5029.regroup (by simp)
    refine W_litD (D := deepBalloon) [] ([] : List Balloon) rfl 0 [] 50 M5030 (by kernel_rfl) (by kernel_rfl) (by kernel_rfl) (by kernel_rfl) (by kernel_rfl) ownI_nil ?_
    intro p5031 c5032 sg5033 w5034 ho5035 M5036
    refine W_run 4 [(6, .slice p5022 ([] : List Int).length c5023), (7, .slice p5031 ([] : List Balloon).length c5032), (8, .int .i64 0), (9, .bool false)] w5034 (by kernel_rfl) ?_
    refine W_nil ?_
    refine N_then ?_
    refine G_ret ?_
    refine N_then_ret ?_
    obtain rfl := Option.some.inj hm
    refine N_ret [.slice p5022 ([] : List Int).length c5023, .slice p5031 ([] : List Balloon).length c5032, .int .i64 0, .bool false] (RVs_cons (RV_tmp (by kernel_rfl)) (RVs_cons (RV_tmp (by kernel_rfl)) (RVs_cons (RV_tmp (by kernel_rfl)) (RVs_cons (RV_tmp (by kernel_rfl)) RVs_nil)))) ?_
    exact ⟨p5022, c5023, sg5024, p5031, c5032, sg5033, [], rfl, ho5026, ho5035, M5036.pick [0, 2, 1] (by kernel_rfl)⟩
  refine G_cond_f (b := (decide (o4791 < 0))) hc5021 (by kernel_rfl) ?_
  refine G_skip ?_
  refine N_then ?_
  refine G_seq ?_
  refine G_region ?_
  refine W_run 2 [(0, .slice p4523 x4521.length c4524), (1, .slice p4528 x4526.length c4529), (2, .int .i64 x4531), (10, .int .i64 o4791), (59, .slice p4528 x4526.length c4529), (60, .int .i64 o4791)] w5017 (by kernel_rfl) ?_
  obtain ⟨y5038, hy5038, hm⟩ := gx_bind hm
  obtain ⟨zs5039, hz5040, hr5041, hi5042⟩ := id h4530
  obtain ⟨g5043, hg5044⟩ := gxIdx_fst hz5040 hy5038
  refine W_val (elemP p4528 (o4791.toNat * 3)) w5017 (by kernel_rfl) (E_index (E := deepBalloon.E) _ _ _ x4526.length c4529 .i64 o4791 3 (y := (y5038, g5043)) rfl (by kernel_rfl) (by kernel_rfl) (by kernel_rfl) (hr5041.mem0 M5018) (len_fst hz5040) hg5044) ?_
  refine W_val (.agg #[.int .i64 y5038.Guest, .int .i64 y5038.Goal, .slice ((g5043 0).1) y5038.Gave.length ((g5043 0).2)]) w5017 (by kernel_rfl) (E_loadE (E := deepBalloon.E) _ _ true 3 o4791 0 (o4791.toNat * 3) (y5038, g5043) (.agg #[.int .i64 y5038.Guest, .int .i64 y5038.Goal, .slice ((g5043 0).1) y5038.Gave.length ((g5043 0).2)]) rfl (by kernel_rfl) (by kernel_rfl) (by kernel_rfl) (hr5041.mem0 M5018) hg5044 rfl) ?_
  refine W_new (fun b => .pointer (some ⟨b, 0, none⟩)) (.cells ⟨[.int .i64 0, .int .i64 0, .slice none 0 0]⟩ 50 (0, 0)) M5018 rfl (by kernel_rfl) (by kernel_rfl) ?_
  intro b5048 w5049 M5050
  refine W_store _ _ _ true 3 b5048 0 [.int .i64 0, .int .i64 0, .slice none 0 0] 50 (.agg #[.int .i64 y5038.Guest, .int .i64 y5038.Goal, .slice ((g5043 0).1) y5038.Gave.length ((g5043 0).2)]) 0 [.int .i64 y5038.Guest, .int .i64 y5038.Goal, .slice ((g5043 0).1) y5038.Gave.length ((g5043 0).2)] M5050 (by kernel_rfl) rfl (by kernel_rfl) (by kernel_rfl) (by kernel_rfl) (by kernel_rfl) (by kernel_rfl) (by kernel_rfl) (by kernel_rfl) (by kernel_rfl) ?_
  intro w5051 M5052
  refine W_nil ?_
  refine N_then ?_
  refine G_seq ?_
  obtain ⟨y5055, hy5055, hm⟩ := gx_bind hm
  obtain ⟨r5082, hr5082, hm⟩ := gx_bind hm
  obtain ⟨ys5088, hys5088, hm⟩ := gx_bind hm
  obtain ⟨r5090, hr5090, hm⟩ := gx_bind hm
  obtain ⟨y5097, hy5097, hm⟩ := gx_bind hm
  refine G_sub [(0, .slice p4523 x4521.length c4524), (1, .slice p4528 x4526.length c4529), (2, .int .i64 x4531), (10, .int .i64 o4791), (12, .pointer (some ⟨b5048, 0, none⟩)), (59, .slice p4528 x4526.length c4529), (60, .int .i64 o4791), (61, elemP p4528 (o4791.toNat * 3)), (62, .agg #[.int .i64 y5038.Guest, .int .i64 y5038.Goal, .slice ((g5043 0).1) y5038.Gave.length ((g5043 0).2)])] (by kernel_rfl) ?_
  refine G_dagL 21 [[], [], [1], [2], [3], [], [0, 4, 5], [], [], [], [9], [], [11], [12], [7, 8, 10, 13], [], [15], [16], [17], [], []] [[], [], [], [], [], [], [], [], [], [], [], [], [], [], [], [], [], [], [], [], []] [[], [], [], [], [], [], [], [], [], [], [], [], [], [], [], [], [], [], [], [], []] [[], [], [], [], [], [], [], [], [], [], [], [], [], [], [], [], [], [], [], [6], [14]] [[], [], [], [], [], [], [], [], [], [], [], [], [], [], [], [], [], [], [], [6], [14]] [[], [], [], [], [], [], [], [], [], [], [], [], [], [], [], [], [], [], [], [], []] (fun _ => []) (fun i => ([fun f v s => v = (.slice p4523 x4521.length c4524 : Value) ∧ s = [], fun f v s => v = (.pointer (some ⟨b5048, 2, none⟩) : Value) ∧ s = [], fun f v s => v = (.slice ((g5043 0).1) y5038.Gave.length ((g5043 0).2) : Value) ∧ s = [], fun f v s => v = (elemP ((g5043 0).1) ((0 : Int).toNat * 1) : Value) ∧ s = [], fun f v s => v = (.int .i64 y5055 : Value) ∧ s = [], fun f v s => v = (.int .i64 x4531 : Value) ∧ s = [], fun f v s => ∃ (p5084 : Option Addr) (c5085 : Nat), v = (.slice p5084 r5082.length c5085 : Value) ∧ ownS Gx.encI r5082 p5084 c5085 s, fun f v s => v = (.slice p4528 x4526.length c4529 : Value) ∧ s = [], fun f v s => v = (.int .i64 o4791 : Value) ∧ s = [], fun f v s => v = (.pointer (some ⟨b5048, 1, none⟩) : Value) ∧ s = [], fun f v s => v = (.int .i64 y5038.Goal : Value) ∧ s = [], fun f v s => v = (.pointer (some ⟨b5048, 2, none⟩) : Value) ∧ s = [], fun f v s => v = (.slice ((g5043 0).1) y5038.Gave.length ((g5043 0).2) : Value) ∧ s = [], fun f v s => v = (.slice (subP ((g5043 0).1) (1 : Int).toNat ((g5043 0).2) 1) ys5088.length (((g5043 0).2) - (1 : Int).toNat) : Value) ∧ s = [], fun f v s => ∃ (p5092 : Option Addr) (c5093 : Nat) (sg5094 : Seg) (sg5095 : Seg), v = (.slice p5092 r5090.length c5093 : Value) ∧ s = (sg5094 ++ sg5095) ∧ ownD deepBalloon r5090 p5092 c5093 sg5094 sg5095, fun f v s => v = (.pointer (some ⟨b5048, 2, none⟩) : Value) ∧ s = [], fun f v s => v = (.slice ((g5043 0).1) y5038.Gave.length ((g5043 0).2) : Value) ∧ s = [], fun f v s => v = (elemP ((g5043 0).1) ((0 : Int).toNat * 1) : Value) ∧ s = [], fun f v s => v = (.int .i64 y5097 : Value) ∧ s = [], fun f v s => v = ((atPath (f 6) []) : Value) ∧ s = [], fun f v s => v = ((atPath (f 14) []) : Value) ∧ s = []] : List ((Nat → Value) → Value → Seg → Prop)).getD i (fun _ _ _ => False)) (fun j f v => ∃ s, (fun i => ([fun f v s => v = (.slice p4523 x4521.length c4524 : Value) ∧ s = [], fun f v s => v = (.pointer (some ⟨b5048, 2, none⟩) : Value) ∧ s = [], fun f v s => v = (.slice ((g5043 0).1) y5038.Gave.length ((g5043 0).2) : Value) ∧ s = [], fun f v s => v = (elemP ((g5043 0).1) ((0 : Int).toNat * 1) : Value) ∧ s = [], fun f v s => v = (.int .i64 y5055 : Value) ∧ s = [], fun f v s => v = (.int .i64 x4531 : Value) ∧ s = [], fun f v s => ∃ (p5084 : Option Addr) (c5085 : Nat), v = (.slice p5084 r5082.length c5085 : Value) ∧ ownS Gx.encI r5082 p5084 c5085 s, fun f v s => v = (.slice p4528 x4526.length c4529 : Value) ∧ s = [], fun f v s => v = (.int .i64 o4791 : Value) ∧ s = [], fun f v s => v = (.pointer (some ⟨b5048, 1, none⟩) : Value) ∧ s = [], fun f v s => v = (.int .i64 y5038.Goal : Value) ∧ s = [], fun f v s => v = (.pointer (some ⟨b5048, 2, none⟩) : Value) ∧ s = [], fun f v s => v = (.slice ((g5043 0).1) y5038.Gave.length ((g5043 0).2) : Value) ∧ s = [], fun f v s => v = (.slice (subP ((g5043 0).1) (1 : Int).toNat ((g5043 0).2) 1) ys5088.length (((g5043 0).2) - (1 : Int).toNat) : Value) ∧ s = [], fun f v s => ∃ (p5092 : Option Addr) (c5093 : Nat) (sg5094 : Seg) (sg5095 : Seg), v = (.slice p5092 r5090.length c5093 : Value) ∧ s = (sg5094 ++ sg5095) ∧ ownD deepBalloon r5090 p5092 c5093 sg5094 sg5095, fun f v s => v = (.pointer (some ⟨b5048, 2, none⟩) : Value) ∧ s = [], fun f v s => v = (.slice ((g5043 0).1) y5038.Gave.length ((g5043 0).2) : Value) ∧ s = [], fun f v s => v = (elemP ((g5043 0).1) ((0 : Int).toNat * 1) : Value) ∧ s = [], fun f v s => v = (.int .i64 y5097 : Value) ∧ s = [], fun f v s => v = ((atPath (f 6) []) : Value) ∧ s = [], fun f v s => v = ((atPath (f 14) []) : Value) ∧ s = []] : List ((Nat → Value) → Value → Seg → Prop)).getD i (fun _ _ _ => False)) j f v s) [] [6, 14, 18, 19, 20] [6, 14] (fun _ _ _ s h => ⟨s, h⟩) (by kernel_rfl) (by kernel_rfl) (M5052.preNil 21) (by kernel_rfl) (by kernel_rfl) (by kernel_rfl) (by kernel_rfl) (allOb_cons ?_ (allOb_cons ?_ (allOb_cons ?_ (allOb_cons ?_ (allOb_cons ?_ (allOb_cons ?_ (allOb_cons ?_ (allOb_cons ?_ (allOb_cons ?_ (allOb_cons ?_ (allOb_cons ?_ (allOb_cons ?_ (allOb_cons ?_ (allOb_cons ?_ (allOb_cons ?_ (allOb_cons ?_ (allOb_cons ?_ (allOb_cons ?_ (allOb_cons ?_ (allOb_cons ?_ (allOb_cons ?_ allOb_nil))))))))))))))))))))) ?_
  · intro g5053 f5054
    intro R w5098 M5099
    refine W_run 1 [(63, .slice p4523 x4521.length c4524)] w5098 (by kernel_rfl) ?_
    exact W_nil (ob_end (.slice p4523 x4521.length c4524) [] rfl (by kernel_rfl) ⟨by kernel_rfl, rfl⟩ M5099)
  · intro g5053 f5054
    intro R w5102 M5103
    refine W_run 1 [(64, .pointer (some ⟨b5048, 2, none⟩))] w5102 (by kernel_rfl) ?_
    exact W_nil (ob_end (.pointer (some ⟨b5048, 2, none⟩)) [] rfl (by kernel_rfl) ⟨by kernel_rfl, rfl⟩ M5103)
  · intro g5053 f5054
    intro v1_ hb1_
    obtain ⟨rfl, _⟩ := hb1_
    intro R w5106 M5107
    refine W_val (.slice ((g5043 0).1) y5038.Gave.length ((g5043 0).2)) w5106 (by kernel_rfl) (E_load (e := 50) (fr := (0, 0)) _ _ false 1 b5048 2 [.int .i64 y5038.Guest, .int .i64 y5038.Goal, .slice ((g5043 0).1) y5038.Gave.length ((g5043 0).2)] (.slice ((g5043 0).1) y5038.Gave.length ((g5043 0).2)) rfl (by kernel_rfl) (by kernel_rfl) (by kernel_rfl) (M5107.blk 0 (b := b5048) (o := .cells ⟨[.int .i64 y5038.Guest, .int .i64 y5038.Goal, .slice ((g5043 0).1) y5038.Gave.length ((g5043 0).2)]⟩ 50 (0, 0)) (by kernel_rfl))) ?_
    exact W_nil (ob_end (.slice ((g5043 0).1) y5038.Gave.length ((g5043 0).2)) [] rfl (by kernel_rfl) ⟨by kernel_rfl, rfl⟩ M5107)
  · intro g5053 f5054
    intro v2_ hb2_
    obtain ⟨rfl, _⟩ := hb2_
    intro R w5110 M5111
    refine W_val (elemP ((g5043 0).1) ((0 : Int).toNat * 1)) w5110 (by kernel_rfl) (E_index (E := Gx.encI) _ _ _ y5038.Gave.length ((g5043 0).2) .i64 0 1 (y := y5055) rfl (by kernel_rfl) (by kernel_rfl) (by kernel_rfl) ((hi5042.mem0 M5111).at_ hg5044 0 ⟨Int, Gx.encI, y5038.Gave, (g5043 0).1, (g5043 0).2⟩ (by kernel_rfl)) rfl hy5055) ?_
    exact W_nil (ob_end (elemP ((g5043 0).1) ((0 : Int).toNat * 1)) [] rfl (by kernel_rfl) ⟨by kernel_rfl, rfl⟩ M5111)
  · intro g5053 f5054
    intro v3_ hb3_
    obtain ⟨rfl, _⟩ := hb3_
    intro R w5114 M5115
    refine W_val (.int .i64 y5055) w5114 (by kernel_rfl) (E_loadE (E := Gx.encI) _ _ false 1 0 0 ((0 : Int).toNat * 1) y5055 (.int .i64 y5055) rfl (by kernel_rfl) (by kernel_rfl) (by kernel_rfl) ((hi5042.mem0 M5115).at_ hg5044 0 ⟨Int, Gx.encI, y5038.Gave, (g5043 0).1, (g5043 0).2⟩ (by kernel_rfl)) hy5055 rfl) ?_
    exact W_nil (ob_end (.int .i64 y5055) [] rfl (by kernel_rfl) ⟨by kernel_rfl, rfl⟩ M5115)
  · intro g5053 f5054
    intro R w5118 M5119
    refine W_run 1 [(68, .int .i64 x4531)] w5118 (by kernel_rfl) ?_
    exact W_nil (ob_end (.int .i64 x4531) [] rfl (by kernel_rfl) ⟨by kernel_rfl, rfl⟩ M5119)
  · intro g5053 f5054
    intro v0_ hb0_
    obtain ⟨rfl, _⟩ := hb0_
    intro v4_ hb4_
    obtain ⟨rfl, _⟩ := hb4_
    intro v5_ hb5_
    obtain ⟨rfl, _⟩ := hb5_
    intro R w5122 M5123
    refine W_call 61 #[.slice p4523 x4521.length c4524, .int .i64 y5055, .int .i64 x4531] (by kernel_rfl) (by kernel_rfl) ?_
    refine (c_s_l18Owner w5122 x4521 p4523 c4524 (h4525.mem0 M5123) y5055 x4531 hr5082).mono ?_
    rintro e_ w5124 ⟨p5084, c5085, sg5086, rfl, ho5087, K5126⟩
    refine ⟨_, rfl, ?_⟩
    exact W_nil (ob_end (.slice p5084 r5082.length c5085) sg5086 rfl (by kernel_rfl) ⟨p5084, c5085, rfl, ho5087⟩ (Mem.callMid M5123 K5126))
  · intro g5053 f5054
    intro R w5127 M5128
    refine W_run 1 [(70, .slice p4528 x4526.length c4529)] w5127 (by kernel_rfl) ?_
    exact W_nil (ob_end (.slice p4528 x4526.length c4529) [] rfl (by kernel_rfl) ⟨by kernel_rfl, rfl⟩ M5128)
  · intro g5053 f5054
    intro R w5131 M5132
    refine W_run 1 [(71, .int .i64 o4791)] w5131 (by kernel_rfl) ?_
    exact W_nil (ob_end (.int .i64 o4791) [] rfl (by kernel_rfl) ⟨by kernel_rfl, rfl⟩ M5132)
  · intro g5053 f5054
    intro R w5135 M5136
    refine W_run 1 [(72, .pointer (some ⟨b5048, 1, none⟩))] w5135 (by kernel_rfl) ?_
    exact W_nil (ob_end (.pointer (some ⟨b5048, 1, none⟩)) [] rfl (by kernel_rfl) ⟨by kernel_rfl, rfl⟩ M5136)
  · intro g5053 f5054
    intro v9_ hb9_
    obtain ⟨rfl, _⟩ := hb9_
    intro R w5139 M5140
    refine W_val (.int .i64 y5038.Goal) w5139 (by kernel_rfl) (E_load (e := 50) (fr := (0, 0)) _ _ false 1 b5048 1 [.int .i64 y5038.Guest, .int .i64 y5038.Goal, .slice ((g5043 0).1) y5038.Gave.length ((g5043 0).2)] (.int .i64 y5038.Goal) rfl (by kernel_rfl) (by kernel_rfl) (by kernel_rfl) (M5140.blk 0 (b := b5048) (o := .cells ⟨[.int .i64 y5038.Guest, .int .i64 y5038.Goal, .slice ((g5043 0).1) y5038.Gave.length ((g5043 0).2)]⟩ 50 (0, 0)) (by kernel_rfl))) ?_
    exact W_nil (ob_end (.int .i64 y5038.Goal) [] rfl (by kernel_rfl) ⟨by kernel_rfl, rfl⟩ M5140)
  · intro g5053 f5054
    intro R w5143 M5144
    refine W_run 1 [(74, .pointer (some ⟨b5048, 2, none⟩))] w5143 (by kernel_rfl) ?_
    exact W_nil (ob_end (.pointer (some ⟨b5048, 2, none⟩)) [] rfl (by kernel_rfl) ⟨by kernel_rfl, rfl⟩ M5144)
  · intro g5053 f5054
    intro v11_ hb11_
    obtain ⟨rfl, _⟩ := hb11_
    intro R w5147 M5148
    refine W_val (.slice ((g5043 0).1) y5038.Gave.length ((g5043 0).2)) w5147 (by kernel_rfl) (E_load (e := 50) (fr := (0, 0)) _ _ false 1 b5048 2 [.int .i64 y5038.Guest, .int .i64 y5038.Goal, .slice ((g5043 0).1) y5038.Gave.length ((g5043 0).2)] (.slice ((g5043 0).1) y5038.Gave.length ((g5043 0).2)) rfl (by kernel_rfl) (by kernel_rfl) (by kernel_rfl) (M5148.blk 0 (b := b5048) (o := .cells ⟨[.int .i64 y5038.Guest, .int .i64 y5038.Goal, .slice ((g5043 0).1) y5038.Gave.length ((g5043 0).2)]⟩ 50 (0, 0)) (by kernel_rfl))) ?_
    exact W_nil (ob_end (.slice ((g5043 0).1) y5038.Gave.length ((g5043 0).2)) [] rfl (by kernel_rfl) ⟨by kernel_rfl, rfl⟩ M5148)
  · intro g5053 f5054
    intro v12_ hb12_
    obtain ⟨rfl, _⟩ := hb12_
    intro R w5151 M5152
    refine W_val (.slice (subP ((g5043 0).1) (1 : Int).toNat ((g5043 0).2) 1) ys5088.length (((g5043 0).2) - (1 : Int).toNat)) w5151 (by kernel_rfl) (E_slice (E := Gx.encI) _ _ _ _ y5038.Gave.length 1 (y5038.Gave.length : Int) rfl (by kernel_rfl) (Or.inr ⟨_, rfl, by kernel_rfl⟩) (Or.inl ⟨rfl, rfl⟩) (by kernel_rfl) ((hi5042.mem0 M5152).at_ hg5044 0 ⟨Int, Gx.encI, y5038.Gave, (g5043 0).1, (g5043 0).2⟩ (by kernel_rfl)) rfl hys5088) ?_
    exact W_nil (ob_end (.slice (subP ((g5043 0).1) (1 : Int).toNat ((g5043 0).2) 1) ys5088.length (((g5043 0).2) - (1 : Int).toNat)) [] rfl (by kernel_rfl) ⟨by kernel_rfl, rfl⟩ M5152)
  · intro g5053 f5054
    intro v7_ hb7_
    obtain ⟨rfl, _⟩ := hb7_
    intro v8_ hb8_
    obtain ⟨rfl, _⟩ := hb8_
    intro v10_ hb10_
    obtain ⟨rfl, _⟩ := hb10_
    intro v13_ hb13_
    obtain ⟨rfl, _⟩ := hb13_
    intro R w5155 M5156
    refine W_call 58 #[.slice p4528 x4526.length c4529, .int .i64 o4791, .int .i64 y5038.Goal, .slice (subP ((g5043 0).1) (1 : Int).toNat ((g5043 0).2) 1) ys5088.length (((g5043 0).2) - (1 : Int).toNat)] (by kernel_rfl) (by kernel_rfl) ?_
    refine (c_s_l18With w5155 x4526 p4528 c4529 (h4530.mem0 M5156) o4791 y5038.Goal ys5088 (subP ((g5043 0).1) (1 : Int).toNat ((g5043 0).2) 1) (((g5043 0).2) - (1 : Int).toNat) (((hi5042.mem0 M5156).at_ hg5044 0 ⟨Int, Gx.encI, y5038.Gave, (g5043 0).1, (g5043 0).2⟩ (by kernel_rfl)).sliceM hys5088) hr5090).mono ?_
    rintro e_ w5157 ⟨p5092, c5093, sg5094, sg5095, rfl, ho5096, K5159⟩
    refine ⟨_, rfl, ?_⟩
    exact W_nil (ob_end (.slice p5092 r5090.length c5093) (sg5094 ++ sg5095) rfl (by kernel_rfl) ⟨p5092, c5093, sg5094, sg5095, rfl, rfl, ho5096⟩ (Mem.callMid M5156 (K5159.permF (by simp))))
  · intro g5053 f5054
    intro R w5160 M5161
    refine W_run 1 [(78, .pointer (some ⟨b5048, 2, none⟩))] w5160 (by kernel_rfl) ?_
    exact W_nil (ob_end (.pointer (some ⟨b5048, 2, none⟩)) [] rfl (by kernel_rfl) ⟨by kernel_rfl, rfl⟩ M5161)
  · intro g5053 f5054
    intro v15_ hb15_
    obtain ⟨rfl, _⟩ := hb15_
    intro R w5164 M5165
    refine W_val (.slice ((g5043 0).1) y5038.Gave.length ((g5043 0).2)) w5164 (by kernel_rfl) (E_load (e := 50) (fr := (0, 0)) _ _ false 1 b5048 2 [.int .i64 y5038.Guest, .int .i64 y5038.Goal, .slice ((g5043 0).1) y5038.Gave.length ((g5043 0).2)] (.slice ((g5043 0).1) y5038.Gave.length ((g5043 0).2)) rfl (by kernel_rfl) (by kernel_rfl) (by kernel_rfl) (M5165.blk 0 (b := b5048) (o := .cells ⟨[.int .i64 y5038.Guest, .int .i64 y5038.Goal, .slice ((g5043 0).1) y5038.Gave.length ((g5043 0).2)]⟩ 50 (0, 0)) (by kernel_rfl))) ?_
    exact W_nil (ob_end (.slice ((g5043 0).1) y5038.Gave.length ((g5043 0).2)) [] rfl (by kernel_rfl) ⟨by kernel_rfl, rfl⟩ M5165)
  · intro g5053 f5054
    intro v16_ hb16_
    obtain ⟨rfl, _⟩ := hb16_
    intro R w5168 M5169
    refine W_val (elemP ((g5043 0).1) ((0 : Int).toNat * 1)) w5168 (by kernel_rfl) (E_index (E := Gx.encI) _ _ _ y5038.Gave.length ((g5043 0).2) .i64 0 1 (y := y5097) rfl (by kernel_rfl) (by kernel_rfl) (by kernel_rfl) ((hi5042.mem0 M5169).at_ hg5044 0 ⟨Int, Gx.encI, y5038.Gave, (g5043 0).1, (g5043 0).2⟩ (by kernel_rfl)) rfl hy5097) ?_
    exact W_nil (ob_end (elemP ((g5043 0).1) ((0 : Int).toNat * 1)) [] rfl (by kernel_rfl) ⟨by kernel_rfl, rfl⟩ M5169)
  · intro g5053 f5054
    intro v17_ hb17_
    obtain ⟨rfl, _⟩ := hb17_
    intro R w5172 M5173
    refine W_val (.int .i64 y5097) w5172 (by kernel_rfl) (E_loadE (E := Gx.encI) _ _ false 1 0 0 ((0 : Int).toNat * 1) y5097 (.int .i64 y5097) rfl (by kernel_rfl) (by kernel_rfl) (by kernel_rfl) ((hi5042.mem0 M5173).at_ hg5044 0 ⟨Int, Gx.encI, y5038.Gave, (g5043 0).1, (g5043 0).2⟩ (by kernel_rfl)) hy5097 rfl) ?_
    exact W_nil (ob_end (.int .i64 y5097) [] rfl (by kernel_rfl) ⟨by kernel_rfl, rfl⟩ M5173)
  · intro g5053 f5054
    intro v6_ hb6_
    obtain ⟨_, p5084, c5085, rfl, _⟩ := hb6_
    intro R w5176 M5177
    refine W_run 1 [(6, .slice p5084 r5082.length c5085)] w5176 (by kernel_rfl) ?_
    exact W_nil (ob_end (.slice p5084 r5082.length c5085) [] rfl (by kernel_rfl) ⟨by kernel_rfl, rfl⟩ M5177)
  · intro g5053 f5054
    intro v14_ hb14_
    obtain ⟨_, p5092, c5093, _, _, rfl, _⟩ := hb14_
    intro R w5180 M5181
    refine W_run 1 [(7, .slice p5092 r5090.length c5093)] w5180 (by kernel_rfl) ?_
    exact W_nil (ob_end (.slice p5092 r5090.length c5093) [] rfl (by kernel_rfl) ⟨by kernel_rfl, rfl⟩ M5181)
  intro g5053 f5054
  intro v6_ hb6_
  obtain ⟨p5084, c5085, rfl, ho5087⟩ := hb6_
  intro v14_ hb14_
  obtain ⟨p5092, c5093, sg5094, sg5095, rfl, hs14_, ho5096⟩ := hb14_
  intro v18_ hb18_
  obtain ⟨rfl, _⟩ := hb18_
  intro v19_ hb19_
  obtain ⟨hv19_, _⟩ := hb19_
  obtain rfl : v19_ = (.slice p5084 r5082.length c5085 : Value) := hv19_.trans (by kernel_rfl)
  intro v20_ hb20_
  obtain ⟨hv20_, _⟩ := hb20_
  obtain rfl : v20_ = (.slice p5092 r5090.length c5093 : Value) := hv20_.trans (by kernel_rfl)
  intro w5184 M5185
  have M5186 : Mem [] w w5184 [[(b5048, .cells ⟨[.int .i64 y5038.Guest, .int .i64 y5038.Goal, .slice ((g5043 0).1) y5038.Gave.length ((g5043 0).2)]⟩ 50 (0, 0))], (g5053 6), (g5053 14)] := M5185
  rw [hs14_] at M5186
  replace M5186 : Mem [] w w5184 [[(b5048, .cells ⟨[.int .i64 y5038.Guest, .int .i64 y5038.Goal, .slice ((g5043 0).1) y5038.Gave.length ((g5043 0).2)]⟩ 50 (0, 0))], (g5053 6), sg5094, sg5095] := M5186.permF (by simp)
  refine W_run 2 [(6, .slice p5084 r5082.length c5085), (7, .slice p5092 r5090.length c5093), (8, .int .i64 y5097), (9, .bool true)] w5184 (by kernel_rfl) ?_
  refine W_nil ?_
  refine N_then ?_
  refine G_ret ?_
  obtain rfl := Option.some.inj hm
  refine N_ret [.slice p5084 r5082.length c5085, .slice p5092 r5090.length c5093, .int .i64 y5097, .bool true] (RVs_cons (RV_tmp (by kernel_rfl)) (RVs_cons (RV_tmp (by kernel_rfl)) (RVs_cons (RV_tmp (by kernel_rfl)) (RVs_cons (RV_tmp (by kernel_rfl)) RVs_nil)))) ?_
  exact ⟨p5084, c5085, (g5053 6), p5092, c5093, sg5094, sg5095, rfl, ho5087, ho5096, M5186.pick [1, 2, 3] (by kernel_rfl)⟩
theorem c_slices_Delete_64 (w : World) (x5336 : List Int) (p5338 : Option Addr) (c5339 : Nat) (sg5340 : Seg) (ho5341 : ownS Gx.encI x5336 p5338 c5339 sg5340) (x5342 : Int) (x5343 : Int) (hA : ∀ q ∈ List.flatten [sg5340], w.heap[q.1]? = some q.2) (hN : (idsOf [sg5340]).Nodup) {r : (List Int) × (List Int)} (hm : M.slices_Delete_64 x5336 x5342 x5343 = some r) :
    Calls Try.prog 64 #[.slice p5338 x5336.length c5339, .int .i64 x5342, .int .i64 x5343] w fun e w' => ∃ (sg5344 : Seg), ∃ (p5346 : Option Addr) (c5347 : Nat), e = .returned (.slice p5346 r.1.length c5347) ∧ ownS Gx.encI r.2 p5338 c5339 sg5344 ∧ r.2.length = x5336.length ∧ viewS 1 r.2 p5338 c5339 p5346 c5347 r.1 ∧ Mem (idsOf [sg5340]) w w' [sg5344] := by
  unfold M.slices_Delete_64 at hm
  rcases gx_bif hm with ⟨h, hm⟩ | ⟨h, hm⟩
  · obtain rfl := Option.some.inj hm
    simp only [Bool.and_eq_true, decide_eq_true_eq] at h
    exact delI_run Try.slices_Delete_int w x5336 p5338 c5339 sg5340 x5342 x5343 ho5341 hA hN h.1.1 h.1.2 h.2
  cases hm
end Go.Proofs.Ytlfligjpmodefaa
